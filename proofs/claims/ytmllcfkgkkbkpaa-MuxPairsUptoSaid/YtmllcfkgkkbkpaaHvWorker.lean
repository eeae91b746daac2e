/-
  THE WALK OF A SOURCE's GOROUTINE: at each thing a select of a send and of a receive at 'quit'; at its end it closes its channel and says Done.
-/
import Derived.Test.YtmllcfkgkkbkpaaHvWgDone
import Derived.Test.YtmllcfkgkkbkpaaPk2
import Derived.Conc.BesideWords
namespace Go.Proofs.Ytmllcfkgkkbkpaa
open Go Go.Conc Go.RowKit Go.Conc.Lib Go.ConcR.Gen
open Go.ConcN (WgLive)
open Go.ConcR (KK wgBlock WgAt stA smA rd wr mk DC0)

section
variable (P : Program) (ty : TypeId) (Wg q c : Nat) (K : Nat → Prop) (z z' : Value)
/-- One that makes no blocks of its own. -/
def WSel (v : Value) (Next : Goroutine → World → Prop) (g : Goroutine) (w : World) : Prop :=
  g.status = .running ∧ stepG P false g w = .comm (core g) (selCases q c z z' v) true .select w #[] ∧
    (∀ w₂, RWk ty Wg K w w₂ → ∃ m, Goes P false (RWk ty Wg K) (DWk K) Next m ((core g).finishComm P (selCases q c z z' v) .select 0 undef false) w₂) ∧
    (∀ w₂, RWk ty Wg K w w₂ → ∃ m, Goes P false (RWk ty Wg K) (DWk K) (WCl P ty Wg c K) m ((core g).finishComm P (selCases q c z z' v) .select 1 z' false) w₂)
def WSend : List Value → Goroutine → World → Prop
  | [] => WCl P ty Wg c K
  | v :: vs => WSel P ty Wg q c K z z' v (WSend vs)
end
theorem wnext_of_send {P : Program} {ty : TypeId} {Wg q c : Nat} {K : Nat → Prop} {z z' : Value} {al : Bool} : ∀ (vs : List Value) {m : Nat} {g : Goroutine} {w : World}, Goes P false (RWk ty Wg K) (DWk K) (WSend P ty Wg q c K z z' vs) m g w → WNext P ty Wg q c K z z' al vs noO g w
  | [], m, g, w, h => by
    unfold WNext
    rw [kO_no]
    exact ⟨m, goesWeak (fun _ _ _ x => x.q) (fun _ _ x => x) h⟩
  | v :: vs, m, g, w, h => by
    unfold WNext
    refine .inl ⟨m, ?_⟩
    have e : (kO K noO) = K := kO_no
    rw [e]
    refine goesWeak (fun _ _ _ x => x.q) (fun g w ⟨h1, h2, h3, h4⟩ => ⟨h1, h2, fun w₂ r => ?_, fun w₂ r => ?_⟩) h
    · rw [e] at r
      obtain ⟨m, hm⟩ := h3 w₂ r
      exact wnext_of_send vs hm
    · rw [e] at r ⊢
      obtain ⟨m, hm⟩ := h4 w₂ r
      exact ⟨m, goesWeak (fun _ _ _ x => x.q) (fun _ _ x => x) hm⟩
noncomputable def botF : Frame := { (default : Frame) with fn := Try.prog.funcs.size, defers := [], mode := .panicking [goexitEntry] }
abbrev bW : Frame := baseD 49
/-- What a source's goroutine knows of the world. -/
structure WF (K : Nat → Prop) (Wg q c bd bo bi bq : Nat) (a0 : Option Addr) (n cap : Nat) (items : List Value) (w : World) : Prop where
  dn : w.cell? ⟨bd, 0, none⟩ = some (.func (.func 26) #[.pointer (some ⟨Wg, 0, none⟩)] #[])
  ou : w.cell? ⟨bo, 0, none⟩ = some (.chan (some c))
  it : w.cell? ⟨bi, 0, none⟩ = some (.slice a0 n cap)
  qu : w.cell? ⟨bq, 0, none⟩ = some (.chan (some q))
  el : ∀ i ad v, a0 = some ad → items[i]? = some v → w.cell? (ad.add i) = some v
  nil : a0 = none → n = 0
  kd : K bd
  ko : K bo
  ki : K bi
  kq : K bq
  ka : ∀ ad, a0 = some ad → 0 < n → K ad.block
  len : items.length = n
  small : n < 1000000000000
  live : WgLive 57 Wg w
section
variable {K : Nat → Prop} {Wg q c bd bo bi bq : Nat} {a0 : Option Addr} {n cap : Nat} {items : List Value} {w w₁ : World}
theorem add_blk (a : Addr) (n : Nat) : (a.add n).block = a.block := by unfold Addr.add; split <;> rfl
theorem wf_rely (h : WF K Wg q c bd bo bi bq a0 n cap items w) (r : RWk 57 Wg K w w₁) : WF K Wg q c bd bo bi bq a0 n cap items w₁ :=
  ⟨(World.cell?_of_block (r.still _ h.kd)).trans h.dn, (World.cell?_of_block (r.still _ h.ko)).trans h.ou, (World.cell?_of_block (r.still _ h.ki)).trans h.it, (World.cell?_of_block (r.still _ h.kq)).trans h.qu,
    fun i ad v ha hv => (World.cell?_of_block (r.still _ (by
      rw [add_blk]
      refine h.ka ad ha ?_
      have := (List.getElem?_eq_some_iff.1 hv).1
      have := h.len
      omega))).trans (h.el i ad v ha hv), h.nil, h.kd, h.ko, h.ki, h.kq, h.ka, h.len, h.small, r.live h.live⟩
theorem quitsTailW (T : Array Value) (k : List Item) : QuitsD Try.prog 2 0 (G { bW.at ⟨T, []⟩ k with mode := .returning } [botF]) := by
  refine QuitsD.ctl (g' := G botF []) rfl (fun w => ?_) ?_
  · simp [G, stepG, unwind, doReturn, results, Frame.at, bW, baseD, botF, Try.func49, Try.f49, seen, GStep.after, goexitEntry]
  refine QuitsD.ctl (g' := { G botF [] with status := .finished }) rfl (fun w => ?_) ⟨rfl, rfl⟩
  simp [G, stepG, unwind, botF, goexitEntry, Frame.catches]
  rfl
noncomputable def bodyW : Code := (Try.f49.body).getD .skip
noncomputable def loopW : Code := match bodyW with | .seq _ (.seq _ (.seq _ (.block _ (.loop c)))) => c | _ => .skip
/-- The two deferred calls. -/
def dDone (Wg : Nat) : Deferred := { target := .fn (.func 26) #[], args := #[.pointer (some ⟨Wg, 0, none⟩)] }

theorem stepG_deferV {P : Program} {main : Bool} {b : Frame} {a : Act} {k : List Item} {cs : List Frame} {w : World} {ops : Array Oper} {i : Nat} {rest : List Nat} {o : Oper} {d : Deferred} (ho : ops[i]? = some o) (hw : Region.wanted o (yielded ops a.tmps) = true) (hk : b.kind ≠ .early)
    (hr : (execOp a.eval o).run P w = .ok (.defer d) w) (he : (execOp a.eval o).events P w #[] = #[]) :
    stepG P main (G (b.at a (.inRegion ops (i :: rest) :: k)) cs) w = .go (G (b.at (Act.put ⟨a.tmps, d :: a.defers⟩ o.dst undef) (.inRegion ops rest :: k)) cs) w #[] := by
  have hfin : (b.at ⟨a.tmps, d :: a.defers⟩ (.inRegion ops (i :: rest) :: k)).finish undef = b.at (Act.put ⟨a.tmps, d :: a.defers⟩ o.dst undef) (.inRegion ops rest :: k) := by rw [Frame.finish_at, ho]; rfl
  have hk' : (b.kind == CallKind.early) = false := by simpa using hk
  rw [stepG_oper ho hw, ← hfin]
  simp [stepG.apply, hr, he, G, Frame.at, hk', GStep.after, seen_none]

def dClose (c : Nat) : Deferred := { target := .builtin .close #[88] 0 #[false], args := #[.chan (some c)] }
theorem array22 (T : Array Value) (h : T.size = 22) : ∃ v0 v1 v2 v3 v4 v5 v6 v7 v8 v9 v10 v11 v12 v13 v14 v15 v16 v17 v18 v19 v20 v21, T = #[v0, v1, v2, v3, v4, v5, v6, v7, v8, v9, v10, v11, v12, v13, v14, v15, v16, v17, v18, v19, v20, v21] := by
  obtain ⟨l⟩ := T
  rcases l with _ | ⟨v0, l⟩
  · simp at h
  rcases l with _ | ⟨v1, l⟩
  · simp at h
  rcases l with _ | ⟨v2, l⟩
  · simp at h
  rcases l with _ | ⟨v3, l⟩
  · simp at h
  rcases l with _ | ⟨v4, l⟩
  · simp at h
  rcases l with _ | ⟨v5, l⟩
  · simp at h
  rcases l with _ | ⟨v6, l⟩
  · simp at h
  rcases l with _ | ⟨v7, l⟩
  · simp at h
  rcases l with _ | ⟨v8, l⟩
  · simp at h
  rcases l with _ | ⟨v9, l⟩
  · simp at h
  rcases l with _ | ⟨v10, l⟩
  · simp at h
  rcases l with _ | ⟨v11, l⟩
  · simp at h
  rcases l with _ | ⟨v12, l⟩
  · simp at h
  rcases l with _ | ⟨v13, l⟩
  · simp at h
  rcases l with _ | ⟨v14, l⟩
  · simp at h
  rcases l with _ | ⟨v15, l⟩
  · simp at h
  rcases l with _ | ⟨v16, l⟩
  · simp at h
  rcases l with _ | ⟨v17, l⟩
  · simp at h
  rcases l with _ | ⟨v18, l⟩
  · simp at h
  rcases l with _ | ⟨v19, l⟩
  · simp at h
  rcases l with _ | ⟨v20, l⟩
  · simp at h
  rcases l with _ | ⟨v21, l⟩
  · simp at h
  rcases l with _ | ⟨x, l⟩
  · exact ⟨v0, v1, v2, v3, v4, v5, v6, v7, v8, v9, v10, v11, v12, v13, v14, v15, v16, v17, v18, v19, v20, v21, rfl⟩
  · simp at h
/-- At the head of its loop, i things behind it. -/
def HeadW (Wg c bd bo bi bq : Nat) (a0 : Option Addr) (n cap i : Nat) (g : Goroutine) : Prop :=
  ∃ T : Array Value, g = G (bW.at ⟨T, [dClose c, dDone Wg]⟩ [.code loopW, .inLoop loopW, .inBlock 0]) [botF] ∧ T.size = 22 ∧ T[0]? = some (.pointer (some ⟨bd, 0, none⟩)) ∧ T[1]? = some (.pointer (some ⟨bo, 0, none⟩)) ∧ T[2]? = some (.pointer (some ⟨bi, 0, none⟩)) ∧ T[3]? = some (.pointer (some ⟨bq, 0, none⟩)) ∧
    T[8]? = some (.slice a0 n cap) ∧ T[9]? = some (.int .i64 n) ∧ T[10]? = some (.int .i64 i)
def zI : Value := .int .i64 0
def zS : Value := .agg #[]
theorem listed_none {P : Program} {fn : FuncId} {a : Act} {o : Oper} {w : World} (h : (execOp a.eval o).events P w #[] = #[]) : listed P fn a o w = #[] := by
  unfold listed
  rw [h]
  exact seen_none _ _
theorem finish_sel {P : Program} {b : Frame} {a : Act} {k : List Item} {cs : List Frame} {ops : Array Oper} {i : Nat} {rest : List Nat} {cases : Array CommCase} {kk : Int} {vv : Value} {ok : Bool} :
    (core (G (b.at a (.inRegion ops (i :: rest) :: k)) cs)).finishComm P cases .select kk vv ok = G (b.at (a.put ((ops[i]?).bind (·.dst)) (commResult cases .select kk vv ok)) (.inRegion ops rest :: k)) cs := by
  simp [core, Goroutine.finishComm, G, Frame.finish_at]
theorem comm0 {q c : Nat} {v : Value} : commResult (selCases q c zI zS v) .select 0 undef false = .tuple #[.int .i64 0, .bool false, zS] := by
  simp [commResult, selCases, scase, rcase, goInt, zS]
theorem comm1 {q c : Nat} {v : Value} : commResult (selCases q c zI zS v) .select 1 zS false = .tuple #[.int .i64 1, .bool false, zS] := by
  simp [commResult, selCases, scase, rcase, goInt, zS]
abbrev wtG : TypeId := 57
set_option maxRecDepth 100000 in
set_option maxHeartbeats 4000000 in
theorem workerStart {Stop : Goroutine → World → Prop} (hF : WF K Wg q c bd bo bi bq a0 n cap items w)
    (hn : ∀ g w, HeadW Wg c bd bo bi bq a0 n cap 0 g → WF K Wg q c bd bo bi bq a0 n cap items w → Goes Try.prog false (RWk 57 Wg K) (DWk K) Stop 60 g w) :
    Goes Try.prog false (RWk 57 Wg K) (DWk K) Stop 78 (G (bW.at ⟨#[.pointer (some ⟨bd, 0, none⟩), .pointer (some ⟨bo, 0, none⟩), .pointer (some ⟨bi, 0, none⟩), .pointer (some ⟨bq, 0, none⟩), undef, undef, undef, undef, undef, undef, undef, undef, undef, undef, undef, undef, undef, undef, undef, undef, undef, undef], []⟩ [.code bodyW]) [botF]) w := by
  simp only [bodyW, Try.f49, Option.getD_some]
  (u_in wf_rely hF; rw [stepG_seq]; simp only [goes_go]; refine ⟨⟨rfl, by simp⟩, ?_⟩)
  (u_in wf_rely hF; rw [stepG_region]; simp only [goes_go, List.size_toArray, List.length_cons, List.length_nil, Nat.reduceAdd, Nat.zero_add, List.range, List.range.loop]; refine ⟨⟨rfl, by simp⟩, ?_⟩)
  (u_in wf_rely hF; refine goes_oper_k rfl rfl (by decide) (fun K' hK => ?_); have hx := hF.dn; go_simp; refine hK _ _ ⟨⟨rfl, fun e he => ?_⟩, ?_⟩; (have hm := mem_listed he; simp [go_sem, *] at hm; (try (subst hm; exact ⟨_, rfl, hF.kd⟩))); clear hK K' hx)
  (u_in wf_rely hF; rw [stepG_deferV (d := dDone Wg) rfl rfl (by decide) (by simp [execOp, resolve, Deferred.ofValue, Act.eval, dDone]) (by simp [execOp, resolve, Deferred.ofValue, Act.eval])]; simp only [goes_go]; refine ⟨⟨rfl, by simp⟩, ?_⟩)
  walk_nrm
  (u_in wf_rely hF; rw [stepG_region_end]; simp only [goes_go]; refine ⟨⟨rfl, by simp⟩, ?_⟩)
  (u_in wf_rely hF; rw [stepG_seq]; simp only [goes_go]; refine ⟨⟨rfl, by simp⟩, ?_⟩)
  (u_in wf_rely hF; rw [stepG_region]; simp only [goes_go, List.size_toArray, List.length_cons, List.length_nil, Nat.reduceAdd, Nat.zero_add, List.range, List.range.loop]; refine ⟨⟨rfl, by simp⟩, ?_⟩)
  (u_in wf_rely hF; refine goes_oper_k rfl rfl (by decide) (fun K' hK => ?_); have hx := hF.ou; go_simp; refine hK _ _ ⟨⟨rfl, fun e he => ?_⟩, ?_⟩; (have hm := mem_listed he; simp [go_sem, *] at hm; (try (subst hm; exact ⟨_, rfl, hF.ko⟩))); clear hK K' hx)
  (u_in wf_rely hF; rw [stepG_deferV (d := dClose c) rfl rfl (by decide) (by simp [execOp, resolve, Act.eval, dClose]) (by simp [execOp, resolve, Act.eval])]; simp only [goes_go]; refine ⟨⟨rfl, by simp⟩, ?_⟩)
  walk_nrm
  (u_in wf_rely hF; rw [stepG_region_end]; simp only [goes_go]; refine ⟨⟨rfl, by simp⟩, ?_⟩)
  (u_in wf_rely hF; rw [stepG_seq]; simp only [goes_go]; refine ⟨⟨rfl, by simp⟩, ?_⟩)
  (u_in wf_rely hF; rw [stepG_region]; simp only [goes_go, List.size_toArray, List.length_cons, List.length_nil, Nat.reduceAdd, Nat.zero_add, List.range, List.range.loop]; refine ⟨⟨rfl, by simp⟩, ?_⟩)
  (u_in wf_rely hF; refine goes_oper_k rfl rfl (by decide) (fun K' hK => ?_); have hx := hF.it; go_simp; refine hK _ _ ⟨⟨rfl, fun e he => ?_⟩, ?_⟩; (have hm := mem_listed he; simp [go_sem, *] at hm; (try (subst hm; exact ⟨_, rfl, hF.ki⟩))); clear hK K' hx)
  (u_in wf_rely hF; refine goes_oper_k rfl rfl (by decide) (fun K' hK => ?_); go_simp; refine hK _ _ ⟨⟨rfl, fun e he => ?_⟩, ?_⟩; (have hm := mem_listed he; simp [go_sem, *] at hm); clear hK K')
  (u_in wf_rely hF; refine goes_oper_k rfl rfl (by decide) (fun K' hK => ?_); go_simp; refine hK _ _ ⟨⟨rfl, fun e he => ?_⟩, ?_⟩; (have hm := mem_listed he; simp [go_sem, *] at hm); clear hK K')
  (u_in wf_rely hF; rw [stepG_region_end]; simp only [goes_go]; refine ⟨⟨rfl, by simp⟩, ?_⟩)
  (u_in wf_rely hF; rw [stepG_block]; simp only [goes_go]; refine ⟨⟨rfl, by simp⟩, ?_⟩)
  (u_in wf_rely hF; rw [stepG_loop]; simp only [goes_go]; refine ⟨⟨rfl, by simp⟩, ?_⟩)
  exact hn _ _ ⟨_, rfl, rfl, rfl, rfl, rfl, rfl, rfl, rfl, rfl⟩ hF
theorem nmDone : (Try.f26.name == "runtime.NumGoroutine") = false := by kernel_rfl
theorem lvK {L : WgLink} (h : WgLive L.tWg Wg w) (r : RWk L.tWg Wg K w w₁) : WgLive L.tWg Wg w₁ := r.live h
set_option maxRecDepth 100000 in
set_option maxHeartbeats 4000000 in
theorem closeW (hF : WF K Wg q c bd bo bi bq a0 n cap items w) (T : Array Value) (k : List Item) : WCl Try.prog wtG Wg c K (G { bW.at ⟨T, [dClose c, dDone Wg]⟩ k with mode := .returning } [botF]) w := by
  refine ⟨rfl, fun s r hc => ⟨G { bW.at ⟨T, [dDone Wg]⟩ k with mode := .returning } [botF], ?_, 310, ?_⟩⟩
  · have hrun : (builtin .close #[88] 0 #[false] #[.chan (some c)]).run Try.prog w = .ok (.value (.tuple #[])) (w.setChan c 0 #[] true s r false) := by
      simp [go_sem, run_close_open _ _ hc, World.setChan]
    have hev : (builtin .close #[88] 0 #[false] #[.chan (some c)]).events Try.prog w #[] = #[⟨.obj c, false, true⟩, ⟨.obj c, true, true⟩] := by
      simp [go_sem, events_close_open _ _ hc]
    have hse : seen Try.prog 49 #[⟨.obj c, false, true⟩, ⟨.obj c, true, true⟩] = #[⟨.obj c, false, true⟩, ⟨.obj c, true, true⟩] := seen_eq (by kernel_rfl) (by simp)
    simp [G, stepG, unwind, callDeferred, Frame.at, dClose, invoke, bW, baseD, hrun, hev, GStep.after, hse]
  · have hl : WgLive wtG Wg (w.setChan c 0 #[] true s r false) := by
      obtain ⟨a, b, h⟩ := hF.live
      refine ⟨a, b, h.of_block (setChan_ne ?_)⟩
      rintro rfl
      have h' : w.heap[Wg]? = some (wgBlock wtG a b) := h
      rw [hc] at h'
      cases h'
    have hD := @doneX Try.prog wgl Wg K wgLib { bW.at ⟨T, []⟩ k with mode := .returning } [botF] 2 rfl (quitsTailW T k)
    refine Goes.step rfl (fun w₁ h₁ => ?_)
    replace hl := h₁.live hl
    rw [stepG_unwind_enter (f := 26) (args := #[.pointer (some ⟨Wg, 0, none⟩)]) rfl Try.func26 nmDone rfl]
    simp only [goes_go]
    refine ⟨⟨rfl, rfl⟩, ?_⟩
    refine Goes.mono (hD w₁ hl) (by decide)
set_option maxRecDepth 100000 in
set_option maxHeartbeats 8000000 in
theorem workerHead : ∀ (r i : Nat), i + r = n → ∀ (g : Goroutine) (w : World), HeadW Wg c bd bo bi bq a0 n cap i g → WF K Wg q c bd bo bi bq a0 n cap items w →
    Goes Try.prog false (RWk wtG Wg K) (DWk K) (WSend Try.prog wtG Wg q c K zI zS (items.drop i)) 60 g w := by
  intro r
  induction r with
  | zero =>
    rintro i hi g w ⟨T, rfl, hT, t0, t1, t2, t3, t8, t9, t10⟩ hF
    obtain ⟨v0, v1, v2, v3, v4, v5, v6, v7, v8, v9, v10, v11, v12, v13, v14, v15, v16, v17, v18, v19, v20, v21, rfl⟩ := array22 T hT
    simp only [List.getElem?_toArray, List.getElem?_cons_zero, List.getElem?_cons_succ, Option.some.injEq] at t0 t1 t2 t3 t8 t9 t10
    subst t0 t1 t2 t3 t8 t9 t10
    have hin : i = n := by omega
    subst hin
    have hd : items.drop i = [] := List.drop_eq_nil_of_le (by rw [hF.len]; exact Nat.le_refl _)
    rw [hd]
    simp only [loopW, bodyW, Try.f49, Option.getD_some]
    (u_in wf_rely hF; rw [stepG_seq]; simp only [goes_go]; refine ⟨⟨rfl, by simp⟩, ?_⟩)
    (u_in wf_rely hF; rw [stepG_region]; simp only [goes_go, List.size_toArray, List.length_cons, List.length_nil, Nat.zero_add, List.range, List.range.loop]; refine ⟨⟨rfl, by simp⟩, ?_⟩)
    (u_in wf_rely hF; refine goes_oper_k rfl rfl (by decide) (fun K' hK => ?_); go_simp; refine hK _ _ ⟨⟨rfl, fun e he => ?_⟩, ?_⟩; (have hm := mem_listed he; simp [go_sem, *] at hm); clear hK K')
    (u_in wf_rely hF; rw [stepG_region_end]; simp only [goes_go]; refine ⟨⟨rfl, by simp⟩, ?_⟩)
    (u_in wf_rely hF; rw [stepG_seq]; simp only [goes_go]; refine ⟨⟨rfl, by simp⟩, ?_⟩)
    (u_in wf_rely hF; rw [stepG_cond (t := false) (by first | rfl | (simp [Act.eval]; omega))]; simp only [goes_go, Bool.false_eq_true, ↓reduceIte]; refine ⟨⟨rfl, by simp⟩, ?_⟩)
    (u_in wf_rely hF; refine goes_exit rfl ?_; refine ⟨⟨rfl, by simp⟩, ?_⟩)
    (u_in wf_rely hF; rw [stepG_end]; simp only [goes_go]; refine ⟨⟨rfl, by simp⟩, ?_⟩)
    exact Goes.stop fun w₃ r₃ => closeW (wf_rely hF r₃) _ _
  | succ r ih =>
    rintro i hi g w ⟨T, rfl, hT, t0, t1, t2, t3, t8, t9, t10⟩ hF
    obtain ⟨v0, v1, v2, v3, v4, v5, v6, v7, v8, v9, v10, v11, v12, v13, v14, v15, v16, v17, v18, v19, v20, v21, rfl⟩ := array22 T hT
    simp only [List.getElem?_toArray, List.getElem?_cons_zero, List.getElem?_cons_succ, Option.some.injEq] at t0 t1 t2 t3 t8 t9 t10
    subst t0 t1 t2 t3 t8 t9 t10
    have hin : i < n := by omega
    have hsm := hF.small
    have hnn : n ≠ 0 := by omega
    obtain ⟨ad, had⟩ : ∃ ad, a0 = some ad := by
      cases a0 with
      | none => exact absurd (hF.nil rfl) hnn
      | some ad => exact ⟨ad, rfl⟩
    subst had
    obtain ⟨v, hv⟩ : ∃ v, items[i]? = some v := ⟨items[i]'(by rw [hF.len]; exact hin), List.getElem?_eq_getElem _⟩
    simp only [loopW, bodyW, Try.f49, Option.getD_some]
    (u_in wf_rely hF; rw [stepG_seq]; simp only [goes_go]; refine ⟨⟨rfl, by simp⟩, ?_⟩)
    (u_in wf_rely hF; rw [stepG_region]; simp only [goes_go, List.size_toArray, List.length_cons, List.length_nil, Nat.zero_add, List.range, List.range.loop]; refine ⟨⟨rfl, by simp⟩, ?_⟩)
    (u_in wf_rely hF; refine goes_oper_k rfl rfl (by decide) (fun K' hK => ?_); go_simp; refine hK _ _ ⟨⟨rfl, fun e he => ?_⟩, ?_⟩; (have hm := mem_listed he; simp [go_sem, *] at hm); clear hK K')
    (u_in wf_rely hF; rw [stepG_region_end]; simp only [goes_go]; refine ⟨⟨rfl, by simp⟩, ?_⟩)
    (u_in wf_rely hF; rw [stepG_seq]; simp only [goes_go]; refine ⟨⟨rfl, by simp⟩, ?_⟩)
    (u_in wf_rely hF; rw [stepG_cond (t := true) (by first | rfl | (simp [Act.eval]; omega))]; simp only [goes_go, ↓reduceIte]; refine ⟨⟨rfl, by simp⟩, ?_⟩)
    (u_in wf_rely hF; rw [stepG_skip]; simp only [goes_go]; refine ⟨⟨rfl, by simp⟩, ?_⟩)
    (u_in wf_rely hF; rw [stepG_seq]; simp only [goes_go]; refine ⟨⟨rfl, by simp⟩, ?_⟩)
    (u_in wf_rely hF; rw [stepG_block]; simp only [goes_go]; refine ⟨⟨rfl, by simp⟩, ?_⟩)
    (u_in wf_rely hF; rw [stepG_seq]; simp only [goes_go]; refine ⟨⟨rfl, by simp⟩, ?_⟩)
    (u_in wf_rely hF; rw [stepG_region]; simp only [goes_go, List.size_toArray, List.length_cons, List.length_nil, Nat.reduceAdd, Nat.zero_add, List.range, List.range.loop]; refine ⟨⟨rfl, by simp⟩, ?_⟩)
    (u_in wf_rely hF; refine goes_oper_k rfl rfl (by decide) (fun K' hK => ?_); go_simp; refine hK _ _ ⟨⟨rfl, fun e he => ?_⟩, ?_⟩; (have hm := mem_listed he; simp [go_sem, *] at hm); clear hK K')
    (u_in wf_rely hF; refine goes_oper_k rfl rfl (by decide) (fun K' hK => ?_); have hx := hF.el i ad v rfl hv; go_simp; refine hK _ _ ⟨⟨rfl, fun e he => ?_⟩, ?_⟩; (have hm := mem_listed he; simp [go_sem, *] at hm; (try (subst hm; exact ⟨_, rfl, (by rw [add_blk]; exact hF.ka _ rfl (by omega))⟩))); clear hK K' hx)
    (u_in wf_rely hF; refine goes_oper_k rfl rfl (by decide) (fun K' hK => ?_); go_simp; refine hK _ _ ⟨⟨rfl, fun e he => ?_⟩, ?_⟩; (have hm := mem_listed he; simp [go_sem, *] at hm); clear hK K')
    (u_in wf_rely hF; rw [stepG_region_end]; simp only [goes_go]; refine ⟨⟨rfl, by simp⟩, ?_⟩)
    (u_in wf_rely hF; rw [stepG_seq]; simp only [goes_go]; refine ⟨⟨rfl, by simp⟩, ?_⟩)
    (u_in wf_rely hF; rw [stepG_seq]; simp only [goes_go]; refine ⟨⟨rfl, by simp⟩, ?_⟩)
    (u_in wf_rely hF; rw [stepG_seq]; simp only [goes_go]; refine ⟨⟨rfl, by simp⟩, ?_⟩)
    (u_in wf_rely hF; rw [stepG_region]; simp only [goes_go, List.size_toArray, List.length_cons, List.length_nil, Nat.zero_add, List.range, List.range.loop]; refine ⟨⟨rfl, by simp⟩, ?_⟩)
    (u_in wf_rely hF; refine goes_oper_k rfl rfl (by decide) (fun K' hK => ?_); have hx := hF.ou; go_simp; refine hK _ _ ⟨⟨rfl, fun e he => ?_⟩, ?_⟩; (have hm := mem_listed he; simp [go_sem, *] at hm; (try (subst hm; exact ⟨_, rfl, hF.ko⟩))); clear hK K' hx)
    (u_in wf_rely hF; rw [stepG_region_end]; simp only [goes_go]; refine ⟨⟨rfl, by simp⟩, ?_⟩)
    (u_in wf_rely hF; rw [stepG_region]; simp only [goes_go, List.size_toArray, List.length_cons, List.length_nil, Nat.zero_add, List.range, List.range.loop]; refine ⟨⟨rfl, by simp⟩, ?_⟩)
    (u_in wf_rely hF; refine goes_oper_k rfl rfl (by decide) (fun K' hK => ?_); go_simp; refine hK _ _ ⟨⟨rfl, fun e he => ?_⟩, ?_⟩; (have hm := mem_listed he; simp [go_sem, *] at hm); clear hK K')
    (u_in wf_rely hF; rw [stepG_region_end]; simp only [goes_go]; refine ⟨⟨rfl, by simp⟩, ?_⟩)
    (u_in wf_rely hF; rw [stepG_region]; simp only [goes_go, List.size_toArray, List.length_cons, List.length_nil, Nat.zero_add, List.range, List.range.loop]; refine ⟨⟨rfl, by simp⟩, ?_⟩)
    (u_in wf_rely hF; refine goes_oper_k rfl rfl (by decide) (fun K' hK => ?_); have hx := hF.qu; go_simp; refine hK _ _ ⟨⟨rfl, fun e he => ?_⟩, ?_⟩; (have hm := mem_listed he; simp [go_sem, *] at hm; (try (subst hm; exact ⟨_, rfl, hF.kq⟩))); clear hK K' hx)
    (u_in wf_rely hF; rw [stepG_region_end]; simp only [goes_go]; refine ⟨⟨rfl, by simp⟩, ?_⟩)
    (u_in wf_rely hF; rw [stepG_seq]; simp only [goes_go]; refine ⟨⟨rfl, by simp⟩, ?_⟩)
    (u_in wf_rely hF; rw [stepG_region]; simp only [goes_go, List.size_toArray, List.length_cons, List.length_nil, Nat.reduceAdd, Nat.zero_add, List.range, List.range.loop]; refine ⟨⟨rfl, by simp⟩, ?_⟩)
    have hd : items.drop i = v :: items.drop (i + 1) := by
      rw [List.drop_eq_getElem_cons (by rw [hF.len]; exact hin)]
      congr 1
      exact (List.getElem?_eq_some_iff.1 hv).2
    rw [hd]
    refine Goes.stop (fun w₁ h₁ => ?_)
    replace hF := wf_rely hF h₁
    clear h₁
    refine ⟨rfl, ?_, fun w₂ r₂ => ?_, fun w₂ r₂ => ?_⟩
    · rw [stepG_comm (cases := selCases q c zI zS v) (blocking := true) (shape := .select) (w' := w₁) rfl rfl (by decide) (by simp [execOp, Act.eval, selCases, scase, rcase, go_sem, zI, zS])]
      rw [listed_none]
      · rfl
      · simp [execOp, Act.eval, go_sem]
    · -- THE THING IS TAKEN
      replace hF := wf_rely hF r₂
      refine ⟨80, ?_⟩
      rw [finish_sel, comm0]
      walk_nrm
      (u_in wf_rely hF; refine goes_oper_k rfl rfl (by decide) (fun K' hK => ?_); go_simp; refine hK _ _ ⟨⟨rfl, fun e he => ?_⟩, ?_⟩; (have hm := mem_listed he; simp [go_sem, *] at hm); clear hK K')
      (u_in wf_rely hF; refine goes_oper_k rfl rfl (by decide) (fun K' hK => ?_); go_simp; refine hK _ _ ⟨⟨rfl, fun e he => ?_⟩, ?_⟩; (have hm := mem_listed he; simp [go_sem, *] at hm); clear hK K')
      (u_in wf_rely hF; refine goes_oper_k rfl rfl (by decide) (fun K' hK => ?_); go_simp; refine hK _ _ ⟨⟨rfl, fun e he => ?_⟩, ?_⟩; (have hm := mem_listed he; simp [go_sem, *] at hm); clear hK K')
      (u_in wf_rely hF; rw [stepG_region_end]; simp only [goes_go]; refine ⟨⟨rfl, by simp⟩, ?_⟩)
      (u_in wf_rely hF; rw [stepG_block]; simp only [goes_go]; refine ⟨⟨rfl, by simp⟩, ?_⟩)
      (u_in wf_rely hF; rw [stepG_cond (t := true) (by first | rfl | (simp [Act.eval]; omega))]; simp only [goes_go, ↓reduceIte]; refine ⟨⟨rfl, by simp⟩, ?_⟩)
      (u_in wf_rely hF; rw [stepG_skip]; simp only [goes_go]; refine ⟨⟨rfl, by simp⟩, ?_⟩)
      (u_in wf_rely hF; rw [stepG_inBlock]; simp only [goes_go]; refine ⟨⟨rfl, by simp⟩, ?_⟩)
      (u_in wf_rely hF; rw [stepG_inBlock]; simp only [goes_go]; refine ⟨⟨rfl, by simp⟩, ?_⟩)
      (u_in wf_rely hF; rw [stepG_region]; simp only [goes_go, List.size_toArray, List.length_cons, List.length_nil, Nat.reduceAdd, Nat.zero_add, List.range, List.range.loop]; refine ⟨⟨rfl, by simp⟩, ?_⟩)
      have hwr : IntKind.i64.wrap ((i : Int) + 1) = ((i + 1 : Nat) : Int) := by rw [IntKind.wrap_i64]; omega
      (u_in wf_rely hF; refine goes_oper_k rfl rfl (by decide) (fun K' hK => ?_); go_simp; refine hK _ _ ⟨⟨rfl, fun e he => ?_⟩, ?_⟩; (have hm := mem_listed he; simp [go_sem, *] at hm); clear hK K')
      (u_in wf_rely hF; refine goes_oper_k rfl rfl (by decide) (fun K' hK => ?_); go_simp; refine hK _ _ ⟨⟨rfl, fun e he => ?_⟩, ?_⟩; (have hm := mem_listed he; simp [go_sem, *] at hm); clear hK K')
      (u_in wf_rely hF; rw [stepG_region_end]; simp only [goes_go]; refine ⟨⟨rfl, by simp⟩, ?_⟩)
      (u_in wf_rely hF; rw [stepG_inLoop]; simp only [goes_go]; refine ⟨⟨rfl, by simp⟩, ?_⟩)
      refine Goes.mono (ih (i + 1) (by omega) _ _ ⟨#[.pointer (some ⟨bd, 0, none⟩), .pointer (some ⟨bo, 0, none⟩), .pointer (some ⟨bi, 0, none⟩), .pointer (some ⟨bq, 0, none⟩), v4, v, v6, v7, .slice (some ad) n cap, .int .i64 n, .int .i64 ((i : Int) + 1), .bool true, .pointer (some (ad.add i)), v, .chan (some c), v, .chan (some q), .tuple #[.int .i64 0, .bool false, zS], .int .i64 0, .bool true, .bool false, .int .i64 ((i : Int) + 1)], ?_, rfl, rfl, rfl, rfl, rfl, rfl, rfl, rfl⟩ hF) (by decide)
      simp only [loopW, bodyW, Try.f49, Option.getD_some]
    · -- IT IS TOLD TO STOP
      replace hF := wf_rely hF r₂
      refine ⟨80, ?_⟩
      rw [finish_sel, comm1]
      walk_nrm
      (u_in wf_rely hF; refine goes_oper_k rfl rfl (by decide) (fun K' hK => ?_); go_simp; refine hK _ _ ⟨⟨rfl, fun e he => ?_⟩, ?_⟩; (have hm := mem_listed he; simp [go_sem, *] at hm); clear hK K')
      (u_in wf_rely hF; refine goes_oper_k rfl rfl (by decide) (fun K' hK => ?_); go_simp; refine hK _ _ ⟨⟨rfl, fun e he => ?_⟩, ?_⟩; (have hm := mem_listed he; simp [go_sem, *] at hm); clear hK K')
      (u_in wf_rely hF; refine goes_oper_k rfl rfl (by decide) (fun K' hK => ?_); go_simp; refine hK _ _ ⟨⟨rfl, fun e he => ?_⟩, ?_⟩; (have hm := mem_listed he; simp [go_sem, *] at hm); clear hK K')
      (u_in wf_rely hF; rw [stepG_region_end]; simp only [goes_go]; refine ⟨⟨rfl, by simp⟩, ?_⟩)
      (u_in wf_rely hF; rw [stepG_block]; simp only [goes_go]; refine ⟨⟨rfl, by simp⟩, ?_⟩)
      (u_in wf_rely hF; rw [stepG_cond (t := false) (by first | rfl | (simp [Act.eval]; omega))]; simp only [goes_go, Bool.false_eq_true, ↓reduceIte]; refine ⟨⟨rfl, by simp⟩, ?_⟩)
      (u_in wf_rely hF; rw [stepG_cond (t := true) (by first | rfl | (simp [Act.eval]; omega))]; simp only [goes_go, ↓reduceIte]; refine ⟨⟨rfl, by simp⟩, ?_⟩)
      (u_in wf_rely hF; rw [stepG_ret']; simp only [goes_go]; refine ⟨⟨rfl, by simp⟩, ?_⟩)
      exact Goes.stop fun w₃ r₃ => closeW (wf_rely hF r₃) _ _
abbrev dBorn (bd bo bi bq : Nat) : Deferred := { target := .fn (.func 49) #[.pointer (some ⟨bd, 0, none⟩), .pointer (some ⟨bo, 0, none⟩), .pointer (some ⟨bi, 0, none⟩), .pointer (some ⟨bq, 0, none⟩)], args := #[] }
theorem nmW : (Try.f49.name == "runtime.NumGoroutine") = false := by kernel_rfl
theorem stepBornG {P : Program} {f : FuncId} {fn : Func} {c : Code} {caps : Array Value} {w : World} (hf : P.funcs[f]? = some fn) (hname : (fn.name == "runtime.NumGoroutine") = false) (hb : fn.body = some c) :
    stepG P false (born P { target := .fn (.func f) caps, args := #[] }) w = .go (G ((baseD f).at { tmps := caps ++ Array.replicate (fn.ntmps - caps.size) undef, defers := [] } [.code c]) [{ (default : Frame) with fn := P.funcs.size, defers := [], mode := .panicking [goexitEntry] }]) w := by
  have h1 : ¬ fn.name = "runtime.NumGoroutine" := by simpa using hname
  rw [← enter_atD caps hf hb]
  simp [born, G, stepG, unwind, callDeferred, invoke, callFunc, hf, h1, hb, GStep.after, seen_none]
theorem ntW : Try.f49.ntmps = 22 := by kernel_rfl
theorem app22 (a b c d : Value) : (#[a, b, c, d] : Array Value) ++ Array.replicate (22 - (#[a, b, c, d] : Array Value).size) undef = #[a, b, c, d, undef, undef, undef, undef, undef, undef, undef, undef, undef, undef, undef, undef, undef, undef, undef, undef, undef, undef] := by
  apply Array.ext'
  simp [List.replicate]
/-- ████ A SOURCE's GOROUTINE. ████ -/
theorem workerBorn (hF : WF K Wg q c bd bo bi bq a0 n cap items w) : Goes Try.prog false (RWk wtG Wg K) (DWk K) (WSend Try.prog wtG Wg q c K zI zS items) 79 (born Try.prog (dBorn bd bo bi bq)) w := by
  refine Goes.step rfl fun w₁ h₁ => ?_
  replace hF := wf_rely hF h₁
  rw [dBorn, stepBornG Try.func49 nmW (c := bodyW) rfl, ntW, app22]
  simp only [goes_go]
  refine ⟨⟨rfl, by simp⟩, ?_⟩
  exact workerStart hF fun g w hg hw => by
    have := workerHead (items := items) n 0 (by omega) g w hg hw
    simpa using this
end
end Go.Proofs.Ytmllcfkgkkbkpaa
