/-
  THE WALK OF A SOURCE's GOROUTINE, pairs: it boxes each pair in a block of its own ahead of the select.
-/
import Derived.Test.YtmllcfkgkkbkpaaHvWorker
namespace Go.Proofs.Ytmllcfkgkkbkpaa.Pr
open Go Go.Conc Go.RowKit Go.Conc.Lib Go.ConcR.Gen
open Go.ConcN (WgLive)
open Go.ConcR (KK wgBlock WgAt stA smA rd wr mk DC0)
abbrev bW : Frame := baseD 50
/-- A pair, as a value. -/
abbrev PV := ByteArray × Int
def prv (x : PV) : Value := .agg #[.string x.1, .int .i64 x.2]
abbrev tP : TypeId := 35
structure WF (K : Nat → Prop) (Wg q c bd bo bi bq : Nat) (a0 : Option Addr) (n cap : Nat) (items : List PV) (w : World) : Prop where
  dn : w.cell? ⟨bd, 0, none⟩ = some (.func (.func 26) #[.pointer (some ⟨Wg, 0, none⟩)] #[])
  ou : w.cell? ⟨bo, 0, none⟩ = some (.chan (some c))
  it : w.cell? ⟨bi, 0, none⟩ = some (.slice a0 n cap)
  qu : w.cell? ⟨bq, 0, none⟩ = some (.chan (some q))
  el : ∀ i b o x, a0 = some ⟨b, o, none⟩ → items[i]? = some x → w.cell? ⟨b, o + i * 2, none⟩ = some (.string x.1) ∧ w.cell? ⟨b, o + i * 2 + 1, none⟩ = some (.int .i64 x.2)
  nil : a0 = none → n = 0
  shape : ∀ ad, a0 = some ad → ∃ b o, ad = ⟨b, o, none⟩
  kd : K bd
  ko : K bo
  ki : K bi
  kq : K bq
  ka : ∀ ad, a0 = some ad → 0 < n → K ad.block
  len : items.length = n
  small : n < 1000000000000
  live : WgLive 57 Wg w
section
variable {K K1 : Nat → Prop} {Wg q c bd bo bi bq s : Nat} {a0 : Option Addr} {n cap : Nat} {items : List PV} {w w₁ : World} {c0 c1 : Value}
theorem wf_rely (h : WF K Wg q c bd bo bi bq a0 n cap items w) (r : RWk 57 Wg K w w₁) : WF K Wg q c bd bo bi bq a0 n cap items w₁ :=
  ⟨(World.cell?_of_block (r.still _ h.kd)).trans h.dn, (World.cell?_of_block (r.still _ h.ko)).trans h.ou, (World.cell?_of_block (r.still _ h.ki)).trans h.it, (World.cell?_of_block (r.still _ h.kq)).trans h.qu,
    fun i b o x ha hv => by
      have hk : K b := h.ka ⟨b, o, none⟩ ha (by have := (List.getElem?_eq_some_iff.1 hv).1; have := h.len; omega)
      obtain ⟨h1, h2⟩ := h.el i b o x ha hv
      exact ⟨(World.cell?_of_block (r.still _ hk)).trans h1, (World.cell?_of_block (r.still _ hk)).trans h2⟩, h.nil, h.shape, h.kd, h.ko, h.ki, h.kq, h.ka, h.len, h.small, r.live h.live⟩
theorem WF.wide (h : WF K Wg q c bd bo bi bq a0 n cap items w) (hk : ∀ b, K b → K1 b) : WF K1 Wg q c bd bo bi bq a0 n cap items w :=
  ⟨h.dn, h.ou, h.it, h.qu, h.el, h.nil, h.shape, hk _ h.kd, hk _ h.ko, hk _ h.ki, hk _ h.kq, fun ad h1 h2 => hk _ (h.ka ad h1 h2), h.len, h.small, h.live⟩
/-- .. and of its box. -/
structure WB (K : Nat → Prop) (Wg q c bd bo bi bq : Nat) (a0 : Option Addr) (n cap : Nat) (items : List PV) (s : Nat) (c0 c1 : Value) (w : World) : Prop where
  wf : WF K Wg q c bd bo bi bq a0 n cap items w
  box : w.heap[s]? = some (.cells #[c0, c1] tP)
  ks : K s
theorem wb_rely (h : WB K Wg q c bd bo bi bq a0 n cap items s c0 c1 w) (r : RWk 57 Wg K w w₁) : WB K Wg q c bd bo bi bq a0 n cap items s c0 c1 w₁ := ⟨wf_rely h.wf r, (r.still _ h.ks).trans h.box, h.ks⟩
theorem cell_row2 {w : World} {b : Nat} {v0 v1 : Value} {e : TypeId} (h : w.heap[b]? = some (.cells #[v0, v1] e)) : w.cell? ⟨b, 0, none⟩ = some v0 ∧ w.cell? ⟨b, 1, none⟩ = some v1 ∧ w.frozen? ⟨b, 0, none⟩ = false ∧ w.frozen? ⟨b, 1, none⟩ = false := by
  simp [World.cell?, World.frozen?, h]
theorem WB.cells (h : WB K Wg q c bd bo bi bq a0 n cap items s c0 c1 w) : w.cell? ⟨s, 0, none⟩ = some c0 ∧ w.cell? ⟨s, 1, none⟩ = some c1 ∧ w.frozen? ⟨s, 0, none⟩ = false ∧ w.frozen? ⟨s, 1, none⟩ = false := cell_row2 h.box
theorem quitsTailW (T : Array Value) (k : List Item) : QuitsD Try.prog 2 0 (G { bW.at ⟨T, []⟩ k with mode := .returning } [botF]) := by
  refine QuitsD.ctl (g' := G botF []) rfl (fun w => ?_) ?_
  · simp [G, stepG, unwind, doReturn, results, Frame.at, bW, baseD, botF, Try.func50, Try.f50, seen, GStep.after, goexitEntry]
  refine QuitsD.ctl (g' := { G botF [] with status := .finished }) rfl (fun w => ?_) ⟨rfl, rfl⟩
  simp [G, stepG, unwind, botF, goexitEntry, Frame.catches]
  rfl
noncomputable def bodyW : Code := (Try.f50.body).getD .skip
noncomputable def loopW : Code := match bodyW with | .seq _ (.seq _ (.seq _ (.block _ (.loop c)))) => c | _ => .skip
def dClose (c : Nat) : Deferred := { target := .builtin .close #[89] 0 #[false], args := #[.chan (some c)] }
def HeadW (Wg c bd bo bi bq : Nat) (a0 : Option Addr) (n cap i : Nat) (g : Goroutine) : Prop :=
  ∃ T : Array Value, g = G (bW.at ⟨T, [dClose c, dDone Wg]⟩ [.code loopW, .inLoop loopW, .inBlock 0]) [botF] ∧ T.size = 22 ∧ T[0]? = some (.pointer (some ⟨bd, 0, none⟩)) ∧ T[1]? = some (.pointer (some ⟨bo, 0, none⟩)) ∧ T[2]? = some (.pointer (some ⟨bi, 0, none⟩)) ∧ T[3]? = some (.pointer (some ⟨bq, 0, none⟩)) ∧
    T[8]? = some (.slice a0 n cap) ∧ T[9]? = some (.int .i64 n) ∧ T[10]? = some (.int .i64 i)
def zI : Value := .agg #[.string ⟨#[]⟩, .int .i64 0]
theorem comm0 {q c : Nat} {v : Value} : commResult (selCases q c zI zS v) .select 0 undef false = .tuple #[.int .i64 0, .bool false, zS] := by
  simp [commResult, selCases, scase, rcase, goInt, zS]
theorem comm1 {q c : Nat} {v : Value} : commResult (selCases q c zI zS v) .select 1 zS false = .tuple #[.int .i64 1, .bool false, zS] := by
  simp [commResult, selCases, scase, rcase, goInt, zS]
set_option maxRecDepth 100000 in
set_option maxHeartbeats 4000000 in
theorem workerStart {Stop : Goroutine → World → Prop} (hF : WF K Wg q c bd bo bi bq a0 n cap items w)
    (hn : ∀ g w, HeadW Wg c bd bo bi bq a0 n cap 0 g → WF K Wg q c bd bo bi bq a0 n cap items w → Goes Try.prog false (RWk 57 Wg K) (DWk K) Stop 60 g w) :
    Goes Try.prog false (RWk 57 Wg K) (DWk K) Stop 78 (G (bW.at ⟨#[.pointer (some ⟨bd, 0, none⟩), .pointer (some ⟨bo, 0, none⟩), .pointer (some ⟨bi, 0, none⟩), .pointer (some ⟨bq, 0, none⟩), undef, undef, undef, undef, undef, undef, undef, undef, undef, undef, undef, undef, undef, undef, undef, undef, undef, undef], []⟩ [.code bodyW]) [botF]) w := by
  simp only [bodyW, Try.f50, Option.getD_some]
  (u_in wf_rely hF; rw [stepG_seq]; simp only [goes_go]; refine ⟨⟨rfl, by simp⟩, ?_⟩)
  (u_in wf_rely hF; rw [stepG_region]; simp only [goes_go, List.size_toArray, List.length_cons, List.length_nil, Nat.reduceAdd, Nat.zero_add, List.range, List.range.loop]; refine ⟨⟨rfl, by simp⟩, ?_⟩)
  (u_in wf_rely hF; refine goes_oper_k rfl rfl (by decide) (fun K' hK => ?_); have hx := hF.dn; go_simp; refine hK _ _ ⟨⟨rfl, fun e he => ?_⟩, ?_⟩; (have hm := mem_listed he; simp [go_sem, *] at hm; (try (subst hm; exact ⟨_, rfl, hF.kd⟩))); clear hK K' hx)
  (u_in wf_rely hF; rw [stepG_deferV (d := dDone Wg) rfl rfl (by decide) (by simp [execOp, resolve, Deferred.ofValue, Act.eval, dDone]) (by simp [execOp, resolve, Deferred.ofValue, Act.eval])]; simp only [goes_go]; refine ⟨⟨rfl, by simp⟩, ?_⟩)
  walk_nrm
  (u_in wf_rely hF; rw [stepG_region_end]; simp only [goes_go]; refine ⟨⟨rfl, by simp⟩, ?_⟩)
  (u_in wf_rely hF; rw [stepG_seq]; simp only [goes_go]; refine ⟨⟨rfl, by simp⟩, ?_⟩)
  (u_in wf_rely hF; rw [stepG_region]; simp only [goes_go, List.size_toArray, List.length_cons, List.length_nil, Nat.reduceAdd, Nat.zero_add, List.range, List.range.loop]; refine ⟨⟨rfl, by simp⟩, ?_⟩)
  (u_in wf_rely hF; refine goes_oper_k rfl rfl (by decide) (fun K' hK => ?_); have hx := hF.ou; go_simp; refine hK _ _ ⟨⟨rfl, fun e he => ?_⟩, ?_⟩; (have hm := mem_listed he; simp [go_sem, *] at hm; (try (subst hm; exact ⟨_, rfl, hF.ko⟩))); clear hK K' hx)
  (u_in wf_rely hF; rw [stepG_deferV (d := dClose c) rfl rfl (by decide) (by simp [execOp, resolve, Act.eval, dClose]) (by simp [execOp, resolve, Act.eval])]; simp only [goes_go]; refine ⟨⟨rfl, by simp⟩, ?_⟩)
  walk_nrm
  (u_in wf_rely hF; rw [stepG_region_end]; simp only [goes_go]; refine ⟨⟨rfl, by simp⟩, ?_⟩)
  (u_in wf_rely hF; rw [stepG_seq]; simp only [goes_go]; refine ⟨⟨rfl, by simp⟩, ?_⟩)
  (u_in wf_rely hF; rw [stepG_region]; simp only [goes_go, List.size_toArray, List.length_cons, List.length_nil, Nat.reduceAdd, Nat.zero_add, List.range, List.range.loop]; refine ⟨⟨rfl, by simp⟩, ?_⟩)
  (u_in wf_rely hF; refine goes_oper_k rfl rfl (by decide) (fun K' hK => ?_); have hx := hF.it; go_simp; refine hK _ _ ⟨⟨rfl, fun e he => ?_⟩, ?_⟩; (have hm := mem_listed he; simp [go_sem, *] at hm; (try (subst hm; exact ⟨_, rfl, hF.ki⟩))); clear hK K' hx)
  (u_in wf_rely hF; refine goes_oper_k rfl rfl (by decide) (fun K' hK => ?_); go_simp; refine hK _ _ ⟨⟨rfl, fun e he => ?_⟩, ?_⟩; (have hm := mem_listed he; simp [go_sem, *] at hm); clear hK K')
  (u_in wf_rely hF; refine goes_oper_k rfl rfl (by decide) (fun K' hK => ?_); go_simp; refine hK _ _ ⟨⟨rfl, fun e he => ?_⟩, ?_⟩; (have hm := mem_listed he; simp [go_sem, *] at hm); clear hK K')
  (u_in wf_rely hF; rw [stepG_region_end]; simp only [goes_go]; refine ⟨⟨rfl, by simp⟩, ?_⟩)
  (u_in wf_rely hF; rw [stepG_block]; simp only [goes_go]; refine ⟨⟨rfl, by simp⟩, ?_⟩)
  (u_in wf_rely hF; rw [stepG_loop]; simp only [goes_go]; refine ⟨⟨rfl, by simp⟩, ?_⟩)
  exact hn _ _ ⟨_, rfl, rfl, rfl, rfl, rfl, rfl, rfl, rfl, rfl⟩ hF
set_option maxRecDepth 100000 in
set_option maxHeartbeats 4000000 in
theorem closeW (hF : WF K Wg q c bd bo bi bq a0 n cap items w) (T : Array Value) (k : List Item) : WCl Try.prog wtG Wg c K (G { bW.at ⟨T, [dClose c, dDone Wg]⟩ k with mode := .returning } [botF]) w := by
  refine ⟨rfl, fun s r hc => ⟨G { bW.at ⟨T, [dDone Wg]⟩ k with mode := .returning } [botF], ?_, 310, ?_⟩⟩
  · have hrun : (builtin .close #[89] 0 #[false] #[.chan (some c)]).run Try.prog w = .ok (.value (.tuple #[])) (w.setChan c 0 #[] true s r false) := by
      simp [go_sem, run_close_open _ _ hc, World.setChan]
    have hev : (builtin .close #[89] 0 #[false] #[.chan (some c)]).events Try.prog w #[] = #[⟨.obj c, false, true⟩, ⟨.obj c, true, true⟩] := by
      simp [go_sem, events_close_open _ _ hc]
    have hse : seen Try.prog 50 #[⟨.obj c, false, true⟩, ⟨.obj c, true, true⟩] = #[⟨.obj c, false, true⟩, ⟨.obj c, true, true⟩] := seen_eq (by kernel_rfl) (by simp)
    simp [G, stepG, unwind, callDeferred, Frame.at, dClose, invoke, bW, baseD, hrun, hev, GStep.after, hse]
  · have hl : WgLive wtG Wg (w.setChan c 0 #[] true s r false) := by
      obtain ⟨a, b, h⟩ := hF.live
      refine ⟨a, b, h.of_block (setChan_ne ?_)⟩
      rintro rfl
      have h' : w.heap[Wg]? = some (wgBlock wtG a b) := h
      rw [hc] at h'
      cases h'
    have hD := @doneX Try.prog wgl Wg K wgLib { bW.at ⟨T, []⟩ k with mode := .returning } [botF] 2 rfl (quitsTailW T k)
    refine Goes.step rfl (fun w₁ h₁ => ?_)
    replace hl := h₁.live hl
    rw [stepG_unwind_enter (f := 26) (args := #[.pointer (some ⟨Wg, 0, none⟩)]) rfl Try.func26 nmDone rfl]
    simp only [goes_go]
    refine ⟨⟨rfl, rfl⟩, ?_⟩
    refine Goes.mono (hD w₁ hl) (by decide)
/-! ### a round -/
theorem dwk_q {O : Nat → Prop} {w w' : World} {es : Array Event} (h : DWk (kO K O) w w' es) : DWq K O w w' es := by
  obtain ⟨rfl, h⟩ := h
  refine ⟨fun _ _ => rfl, rfl, fun _ _ _ h => .inl h, rfl, rfl, rfl, fun e he => ?_⟩
  obtain ⟨a, rfl, hk⟩ := h e he
  exact hk.elim (fun hk => .inl ⟨a, rfl, hk⟩) fun hk => .inr ⟨a, false, rfl, hk⟩
/-- Where it stops on its way. -/
def PStop (K : Nat → Prop) (Wg q c : Nat) (vs : List Value) (O : Nat → Prop) : Goroutine → World → Prop :=
  match vs with
  | [] => WCl Try.prog wtG Wg c (kO K O)
  | v :: vs => WAlG Try.prog wtG Wg q c K zI zS true v (WNext Try.prog wtG Wg q c K zI zS true vs) O
theorem wnext_of {vs : List Value} {O : Nat → Prop} {m : Nat} {g : Goroutine} (h : Goes Try.prog false (RWk wtG Wg (kO K O)) (DWk (kO K O)) (PStop K Wg q c vs O) m g w) : WNext Try.prog wtG Wg q c K zI zS true vs O g w := by
  have h' := goesWeak (D' := DWq K O) (fun _ _ _ x => dwk_q x) (fun _ _ x => x) h
  cases vs with
  | nil => exact ⟨m, h'⟩
  | cons v vs => exact .inr ⟨m, h'⟩
/-- An operation that yields a value. -/
theorem stepG_valueV {P : Program} {main : Bool} {b : Frame} {a : Act} {k : List Item} {cs : List Frame} {w w' : World} {ops : Array Oper} {i : Nat} {rest : List Nat} {o : Oper} {v : Value} (ho : ops[i]? = some o) (hw : Region.wanted o (yielded ops a.tmps) = true) (hk : b.kind ≠ .early)
    (hr : (execOp a.eval o).run P w = .ok (.value v) w') :
    stepG P main (G (b.at a (.inRegion ops (i :: rest) :: k)) cs) w = .go (G (b.at (a.put o.dst v) (.inRegion ops rest :: k)) cs) w' (seen P b.fn ((execOp a.eval o).events P w #[])) := by
  have hfin : (b.at a (.inRegion ops (i :: rest) :: k)).finish v = b.at (a.put o.dst v) (.inRegion ops rest :: k) := by rw [Frame.finish_at, ho]; rfl
  have hk' : (b.kind == CallKind.early) = false := by simpa using hk
  rw [stepG_oper ho hw, ← hfin]
  simp [stepG.apply, hr, Sem.runT_eq, G, Frame.at, hk', GStep.after]
theorem stepG_skipV {P : Program} {main : Bool} {b : Frame} {a : Act} {k : List Item} {cs : List Frame} {w w' : World} {ops : Array Oper} {i : Nat} {rest : List Nat} {o : Oper} (ho : ops[i]? = some o) (hw : Region.wanted o (yielded ops a.tmps) = true) (hk : b.kind ≠ .early)
    (hr : (execOp a.eval o).run P w = .ok .skip w') :
    stepG P main (G (b.at a (.inRegion ops (i :: rest) :: k)) cs) w = .go (G (b.at (a.put o.dst undef) (.inRegion ops rest :: k)) cs) w' (seen P b.fn ((execOp a.eval o).events P w #[])) := by
  have hfin : (b.at a (.inRegion ops (i :: rest) :: k)).finish undef = b.at (a.put o.dst undef) (.inRegion ops rest :: k) := by rw [Frame.finish_at, ho]; rfl
  have hk' : (b.kind == CallKind.early) = false := by simpa using hk
  rw [stepG_oper ho hw, ← hfin]
  simp [stepG.apply, hr, Sem.runT_eq, G, Frame.at, hk', GStep.after]
theorem box_set {w : World} {s : Nat} {d0 d1 v0 v1 : Value} (h : w.heap[s]? = some (.cells #[d0, d1] tP)) : ((w.setCell ⟨s, 0, none⟩ v0).setCell ⟨s, 1, none⟩ v1).heap[s]? = some (.cells #[v0, v1] tP) := by
  rw [heap_setCell_same _ s 1 _ _ _ (heap_setCell_same w s 0 _ _ _ h)]
  rfl
theorem box_set_ne {w : World} {s x : Nat} {v0 v1 : Value} (h : x ≠ s) : ((w.setCell ⟨s, 0, none⟩ v0).setCell ⟨s, 1, none⟩ v1).heap[x]? = w.heap[x]? := by
  rw [heap_setCell_other _ ⟨s, 1, none⟩ x _ h, heap_setCell_other _ ⟨s, 0, none⟩ x _ h]
set_option maxRecDepth 100000 in
set_option maxHeartbeats 16000000 in
theorem workerHead : ∀ (r i : Nat), i + r = n → ∀ (O : Nat → Prop) (g : Goroutine) (w : World), HeadW Wg c bd bo bi bq a0 n cap i g → WF (kO K O) Wg q c bd bo bi bq a0 n cap items w →
    Goes Try.prog false (RWk wtG Wg (kO K O)) (DWk (kO K O)) (PStop K Wg q c ((items.drop i).map prv) O) 60 g w := by
  intro r
  induction r with
  | zero =>
    rintro i hi O g w ⟨T, rfl, hT, t0, t1, t2, t3, t8, t9, t10⟩ hF
    obtain ⟨v0, v1, v2, v3, v4, v5, v6, v7, v8, v9, v10, v11, v12, v13, v14, v15, v16, v17, v18, v19, v20, v21, rfl⟩ := array22 T hT
    simp only [List.getElem?_toArray, List.getElem?_cons_zero, List.getElem?_cons_succ, Option.some.injEq] at t0 t1 t2 t3 t8 t9 t10
    subst t0 t1 t2 t3 t8 t9 t10
    have hin : i = n := by omega
    subst hin
    have hd : items.drop i = [] := List.drop_eq_nil_of_le (by rw [hF.len]; exact Nat.le_refl _)
    rw [hd]
    simp only [loopW, bodyW, Try.f50, Option.getD_some]
    (u_in wf_rely hF; rw [stepG_seq]; simp only [goes_go]; refine ⟨⟨rfl, by simp⟩, ?_⟩)
    (u_in wf_rely hF; rw [stepG_region]; simp only [goes_go, List.size_toArray, List.length_cons, List.length_nil, Nat.zero_add, List.range, List.range.loop]; refine ⟨⟨rfl, by simp⟩, ?_⟩)
    (u_in wf_rely hF; refine goes_oper_k rfl rfl (by decide) (fun K' hK => ?_); go_simp; refine hK _ _ ⟨⟨rfl, fun e he => ?_⟩, ?_⟩; (have hm := mem_listed he; simp [go_sem, *] at hm); clear hK K')
    (u_in wf_rely hF; rw [stepG_region_end]; simp only [goes_go]; refine ⟨⟨rfl, by simp⟩, ?_⟩)
    (u_in wf_rely hF; rw [stepG_seq]; simp only [goes_go]; refine ⟨⟨rfl, by simp⟩, ?_⟩)
    (u_in wf_rely hF; rw [stepG_cond (t := false) (by first | rfl | (simp [Act.eval]; omega))]; simp only [goes_go, Bool.false_eq_true, ↓reduceIte]; refine ⟨⟨rfl, by simp⟩, ?_⟩)
    (u_in wf_rely hF; refine goes_exit rfl ?_; refine ⟨⟨rfl, by simp⟩, ?_⟩)
    (u_in wf_rely hF; rw [stepG_end]; simp only [goes_go]; refine ⟨⟨rfl, by simp⟩, ?_⟩)
    exact Goes.stop fun w₃ r₃ => closeW (wf_rely hF r₃) _ _
  | succ r ih =>
    rintro i hi O g w ⟨T, rfl, hT, t0, t1, t2, t3, t8, t9, t10⟩ hF
    obtain ⟨v0, v1, v2, v3, v4, v5, v6, v7, v8, v9, v10, v11, v12, v13, v14, v15, v16, v17, v18, v19, v20, v21, rfl⟩ := array22 T hT
    simp only [List.getElem?_toArray, List.getElem?_cons_zero, List.getElem?_cons_succ, Option.some.injEq] at t0 t1 t2 t3 t8 t9 t10
    subst t0 t1 t2 t3 t8 t9 t10
    have hin : i < n := by omega
    have hsm := hF.small
    have hnn : n ≠ 0 := by omega
    obtain ⟨ab, ao, had⟩ : ∃ b o, a0 = some ⟨b, o, none⟩ := by
      cases a0 with
      | none => exact absurd (hF.nil rfl) hnn
      | some ad =>
        obtain ⟨b, o, rfl⟩ := hF.shape ad rfl
        exact ⟨b, o, rfl⟩
    subst had
    obtain ⟨⟨xs, xn⟩, hv⟩ : ∃ v, items[i]? = some v := ⟨items[i]'(by rw [hF.len]; exact hin), List.getElem?_eq_getElem _⟩
    have hd : (items.drop i).map prv = .agg #[.string xs, .int .i64 xn] :: (items.drop (i + 1)).map prv := by
      rw [List.drop_eq_getElem_cons (by rw [hF.len]; exact hin), List.map_cons]
      congr 1
      rw [(List.getElem?_eq_some_iff.1 hv).2]
      rfl
    rw [hd]
    simp only [loopW, bodyW, Try.f50, Option.getD_some]
    (u_in wf_rely hF; rw [stepG_seq]; simp only [goes_go]; refine ⟨⟨rfl, by simp⟩, ?_⟩)
    (u_in wf_rely hF; rw [stepG_region]; simp only [goes_go, List.size_toArray, List.length_cons, List.length_nil, Nat.zero_add, List.range, List.range.loop]; refine ⟨⟨rfl, by simp⟩, ?_⟩)
    (u_in wf_rely hF; refine goes_oper_k rfl rfl (by decide) (fun K' hK => ?_); go_simp; refine hK _ _ ⟨⟨rfl, fun e he => ?_⟩, ?_⟩; (have hm := mem_listed he; simp [go_sem, *] at hm); clear hK K')
    (u_in wf_rely hF; rw [stepG_region_end]; simp only [goes_go]; refine ⟨⟨rfl, by simp⟩, ?_⟩)
    (u_in wf_rely hF; rw [stepG_seq]; simp only [goes_go]; refine ⟨⟨rfl, by simp⟩, ?_⟩)
    (u_in wf_rely hF; rw [stepG_cond (t := true) (by first | rfl | (simp [Act.eval]; omega))]; simp only [goes_go, ↓reduceIte]; refine ⟨⟨rfl, by simp⟩, ?_⟩)
    (u_in wf_rely hF; rw [stepG_skip]; simp only [goes_go]; refine ⟨⟨rfl, by simp⟩, ?_⟩)
    (u_in wf_rely hF; rw [stepG_seq]; simp only [goes_go]; refine ⟨⟨rfl, by simp⟩, ?_⟩)
    (u_in wf_rely hF; rw [stepG_block]; simp only [goes_go]; refine ⟨⟨rfl, by simp⟩, ?_⟩)
    (u_in wf_rely hF; rw [stepG_seq]; simp only [goes_go]; refine ⟨⟨rfl, by simp⟩, ?_⟩)
    (u_in wf_rely hF; rw [stepG_region]; simp only [goes_go, List.size_toArray, List.length_cons, List.length_nil, Nat.reduceAdd, Nat.zero_add, List.range, List.range.loop]; refine ⟨⟨rfl, by simp⟩, ?_⟩)
    (u_in wf_rely hF; refine goes_oper_k rfl rfl (by decide) (fun K' hK => ?_); go_simp; refine hK _ _ ⟨⟨rfl, fun e he => ?_⟩, ?_⟩; (have hm := mem_listed he; simp [go_sem, *] at hm); clear hK K')
    (u_in wf_rely hF; refine goes_oper_k rfl rfl (by decide) (fun K' hK => ?_); have hx := (hF.el i ab ao (xs, xn) rfl hv).1; have hy := (hF.el i ab ao (xs, xn) rfl hv).2; go_simp; refine hK _ _ ⟨⟨rfl, fun e he => ?_⟩, ?_⟩; (have hm := mem_listed he; simp [go_sem, *] at hm; (rcases hm with rfl | rfl); exact ⟨_, rfl, (hF.ka ⟨ab, ao, none⟩ rfl (by omega))⟩; exact ⟨_, rfl, (hF.ka ⟨ab, ao, none⟩ rfl (by omega))⟩); clear hK K' hx hy)
    refine Goes.stop (fun w₁ h₁ => ?_)
    replace hF := wf_rely hF h₁
    clear h₁
    refine ⟨rfl, rfl, .cells #[.string ⟨#[]⟩, .int .i64 0] tP, ?_⟩
    apply Exists.intro
    refine ⟨rfl, ?_, 60, by omega, ?_⟩
    · rw [stepG_valueV (v := .pointer (some ⟨w₁.heap.size, 0, none⟩)) (w' := w₁.alloc (.cells #[.string ⟨#[]⟩, .int .i64 0] tP)) rfl rfl (by decide) (by go_simp)]
      have he : ∀ (o : Oper) (a : Act), o.op = .alloc tP → (execOp a.eval o).events Try.prog w₁ #[] = #[] := fun o a h => by simp [execOp, h, go_sem]
      rw [he _ _ rfl, seen_none]
    obtain ⟨s, hs⟩ : ∃ s, s = w₁.heap.size := ⟨_, rfl⟩
    obtain ⟨w2, hw2⟩ : ∃ w2, w2 = w₁.alloc (.cells #[.string ⟨#[]⟩, .int .i64 0] tP) := ⟨_, rfl⟩
    have low2 : ∀ x, x < w₁.heap.size → w2.heap[x]? = w₁.heap[x]? := fun x hx => by
      rw [hw2]
      show (w₁.heap.push _)[x]? = _
      rw [Array.getElem?_push_lt hx, Array.getElem?_eq_getElem hx]
    have hbox : w2.heap[s]? = some (.cells #[.string ⟨#[]⟩, .int .i64 0] tP) := by
      rw [hw2, hs]
      show (w₁.heap.push _)[w₁.heap.size]? = _
      simp
    rw [← hs, ← hw2]
    have hF2 : WF (kO K fun b => O b ∨ b = s) Wg q c bd bo bi bq (some ⟨ab, ao, none⟩) n cap items w2 := by
      have lt : ∀ {a v}, w₁.cell? a = some v → w2.cell? a = some v := fun {a v} h => (World.cell?_of_block (low2 _ (World.block_lt_of_cell? w₁ a h))).trans h
      have h0 := hF.wide (K1 := kO K fun b => O b ∨ b = s) fun b hb => hb.imp id .inl
      exact ⟨lt h0.dn, lt h0.ou, lt h0.it, lt h0.qu, fun i b o x h1 h2 => ⟨lt (h0.el i b o x h1 h2).1, lt (h0.el i b o x h1 h2).2⟩, h0.nil, h0.shape, h0.kd, h0.ko, h0.ki, h0.kq, h0.ka, h0.len, h0.small, let ⟨st, sm, h⟩ := h0.live; ⟨st, sm, h.of_block (low2 _ (Array.getElem?_eq_some_iff.1 h).1)⟩⟩
    have hne : bd ≠ s ∧ bo ≠ s ∧ bi ≠ s ∧ bq ≠ s ∧ ab ≠ s ∧ Wg ≠ s := by
      have lt : ∀ {a v}, w₁.cell? a = some v → a.block ≠ s := fun {a v} h => by have := World.block_lt_of_cell? w₁ a h; omega
      refine ⟨lt hF.dn, lt hF.ou, lt hF.it, lt hF.qu, lt (hF.el i ab ao (xs, xn) rfl hv).1, ?_⟩
      obtain ⟨st, sm, h⟩ := hF.live
      have := (Array.getElem?_eq_some_iff.1 h).1
      omega
    have hB : WB (kO K fun b => O b ∨ b = s) Wg q c bd bo bi bq (some ⟨ab, ao, none⟩) n cap items s (.string ⟨#[]⟩) (.int .i64 0) w2 := ⟨hF2, hbox, .inr (.inr rfl)⟩
    clear hF hF2 hbox low2 hw2 hs
    walk_nrm
    -- THE STORE
    refine Goes.step rfl fun w3 h3 => ?_
    replace hB := wb_rely hB h3
    clear h3
    obtain ⟨x1, x2, x3, x4⟩ := hB.cells
    rw [stepG_skipV (w' := (w3.setCell ⟨s, 0, none⟩ (.string xs)).setCell ⟨s, 1, none⟩ (.int .i64 xn)) rfl rfl (by decide) (by go_simp)]
    simp only [goes_go]
    have hB3 : WB (kO K fun b => O b ∨ b = s) Wg q c bd bo bi bq (some ⟨ab, ao, none⟩) n cap items s (.string xs) (.int .i64 xn) ((w3.setCell ⟨s, 0, none⟩ (.string xs)).setCell ⟨s, 1, none⟩ (.int .i64 xn)) := by
      have lt : ∀ {a v}, w3.cell? a = some v → a.block ≠ s → ((w3.setCell ⟨s, 0, none⟩ (.string xs)).setCell ⟨s, 1, none⟩ (.int .i64 xn)).cell? a = some v := fun {a v} h hne => (World.cell?_of_block (box_set_ne hne)).trans h
      have h0 := hB.wf
      exact ⟨⟨lt h0.dn hne.1, lt h0.ou hne.2.1, lt h0.it hne.2.2.1, lt h0.qu hne.2.2.2.1, fun i b o x h1 h2 => by
        have e : ab = b := by cases h1; rfl
        exact ⟨lt (h0.el i b o x h1 h2).1 (e ▸ hne.2.2.2.2.1), lt (h0.el i b o x h1 h2).2 (e ▸ hne.2.2.2.2.1)⟩, h0.nil, h0.shape, h0.kd, h0.ko, h0.ki, h0.kq, h0.ka, h0.len, h0.small, let ⟨st, sm, h⟩ := h0.live; ⟨st, sm, h.of_block (box_set_ne hne.2.2.2.2.2)⟩⟩, box_set hB.box, hB.ks⟩
    refine ⟨⟨fun b hb => box_set_ne fun e => hb (.inr e), by simp, fun b o hb ho => ?_, rfl, rfl, rfl, fun e he => ?_⟩, ?_⟩
    · by_cases e : b = s
      · subst e
        rw [box_set hB.box] at ho
        cases ho
        exact .inr rfl
      · rw [box_set_ne e] at ho
        exact .inl ho
    · have hm := mem_seen he
      clear he
      simp [go_sem, x1, x2, x3, x4, events_store Try.prog w3 #[] ⟨s, 0, none⟩ (.string xs) .plain rfl] at hm
      rcases hm with rfl | rfl
      · exact .inr ⟨_, _, rfl, .inr rfl⟩
      · exact .inr ⟨_, _, rfl, .inr rfl⟩
    generalize (w3.setCell ⟨s, 0, none⟩ (.string xs)).setCell ⟨s, 1, none⟩ (.int .i64 xn) = w4 at hB3 ⊢
    clear hB x1 x2 x3 x4
    refine goesWeak (D := DWk (kO K fun b => O b ∨ b = s)) (fun _ _ _ x => dwk_q x) (fun _ _ x => x) ?_
    (u_in wb_rely hB3; rw [stepG_region_end]; simp only [goes_go]; refine ⟨⟨rfl, by simp⟩, ?_⟩)
    (u_in wb_rely hB3; rw [stepG_seq]; simp only [goes_go]; refine ⟨⟨rfl, by simp⟩, ?_⟩)
    (u_in wb_rely hB3; rw [stepG_seq]; simp only [goes_go]; refine ⟨⟨rfl, by simp⟩, ?_⟩)
    (u_in wb_rely hB3; rw [stepG_seq]; simp only [goes_go]; refine ⟨⟨rfl, by simp⟩, ?_⟩)
    (u_in wb_rely hB3; rw [stepG_region]; simp only [goes_go, List.size_toArray, List.length_cons, List.length_nil, Nat.zero_add, List.range, List.range.loop]; refine ⟨⟨rfl, by simp⟩, ?_⟩)
    (u_in wb_rely hB3; refine goes_oper_k rfl rfl (by decide) (fun K' hK => ?_); have hx := hB3.wf.ou; go_simp; refine hK _ _ ⟨⟨rfl, fun e he => ?_⟩, ?_⟩; (have hm := mem_listed he; simp [go_sem, *] at hm; (try (subst hm; exact ⟨_, rfl, hB3.wf.ko⟩))); clear hK K' hx)
    (u_in wb_rely hB3; rw [stepG_region_end]; simp only [goes_go]; refine ⟨⟨rfl, by simp⟩, ?_⟩)
    (u_in wb_rely hB3; rw [stepG_region]; simp only [goes_go, List.size_toArray, List.length_cons, List.length_nil, Nat.zero_add, List.range, List.range.loop]; refine ⟨⟨rfl, by simp⟩, ?_⟩)
    (u_in wb_rely hB3; refine goes_oper_k rfl rfl (by decide) (fun K' hK => ?_); have hx := hB3.cells.1; have hy := hB3.cells.2.1; go_simp; refine hK _ _ ⟨⟨rfl, fun e he => ?_⟩, ?_⟩; (have hm := mem_listed he; simp [go_sem, *] at hm; (rcases hm with rfl | rfl); exact ⟨_, rfl, hB3.ks⟩; exact ⟨_, rfl, hB3.ks⟩); clear hK K' hx hy)
    (u_in wb_rely hB3; rw [stepG_region_end]; simp only [goes_go]; refine ⟨⟨rfl, by simp⟩, ?_⟩)
    (u_in wb_rely hB3; rw [stepG_region]; simp only [goes_go, List.size_toArray, List.length_cons, List.length_nil, Nat.zero_add, List.range, List.range.loop]; refine ⟨⟨rfl, by simp⟩, ?_⟩)
    (u_in wb_rely hB3; refine goes_oper_k rfl rfl (by decide) (fun K' hK => ?_); have hx := hB3.wf.qu; go_simp; refine hK _ _ ⟨⟨rfl, fun e he => ?_⟩, ?_⟩; (have hm := mem_listed he; simp [go_sem, *] at hm; (try (subst hm; exact ⟨_, rfl, hB3.wf.kq⟩))); clear hK K' hx)
    (u_in wb_rely hB3; rw [stepG_region_end]; simp only [goes_go]; refine ⟨⟨rfl, by simp⟩, ?_⟩)
    (u_in wb_rely hB3; rw [stepG_seq]; simp only [goes_go]; refine ⟨⟨rfl, by simp⟩, ?_⟩)
    (u_in wb_rely hB3; rw [stepG_region]; simp only [goes_go, List.size_toArray, List.length_cons, List.length_nil, Nat.reduceAdd, Nat.zero_add, List.range, List.range.loop]; refine ⟨⟨rfl, by simp⟩, ?_⟩)
    replace hF := hB3.wf
    clear hB3
    refine Goes.stop (fun w₁ h₁ => ?_)
    replace hF := wf_rely hF h₁
    clear h₁
    refine ⟨rfl, ?_, fun w₂ r₂ => ?_, fun w₂ r₂ => ?_⟩
    · rw [stepG_comm (cases := selCases q c zI zS (.agg #[.string xs, .int .i64 xn])) (blocking := true) (shape := .select) (w' := w₁) rfl rfl (by decide) (by simp [execOp, Act.eval, selCases, scase, rcase, go_sem, zI, zS])]
      rw [listed_none]
      · rfl
      · simp [execOp, Act.eval, go_sem]
    · -- THE THING IS TAKEN
      replace hF := wf_rely hF r₂
      refine wnext_of (m := 80) ?_
      rw [finish_sel, comm0]
      walk_nrm
      (u_in wf_rely hF; refine goes_oper_k rfl rfl (by decide) (fun K' hK => ?_); go_simp; refine hK _ _ ⟨⟨rfl, fun e he => ?_⟩, ?_⟩; (have hm := mem_listed he; simp [go_sem, *] at hm); clear hK K')
      (u_in wf_rely hF; refine goes_oper_k rfl rfl (by decide) (fun K' hK => ?_); go_simp; refine hK _ _ ⟨⟨rfl, fun e he => ?_⟩, ?_⟩; (have hm := mem_listed he; simp [go_sem, *] at hm); clear hK K')
      (u_in wf_rely hF; refine goes_oper_k rfl rfl (by decide) (fun K' hK => ?_); go_simp; refine hK _ _ ⟨⟨rfl, fun e he => ?_⟩, ?_⟩; (have hm := mem_listed he; simp [go_sem, *] at hm); clear hK K')
      (u_in wf_rely hF; rw [stepG_region_end]; simp only [goes_go]; refine ⟨⟨rfl, by simp⟩, ?_⟩)
      (u_in wf_rely hF; rw [stepG_block]; simp only [goes_go]; refine ⟨⟨rfl, by simp⟩, ?_⟩)
      (u_in wf_rely hF; rw [stepG_cond (t := true) (by first | rfl | (simp [Act.eval]; omega))]; simp only [goes_go, ↓reduceIte]; refine ⟨⟨rfl, by simp⟩, ?_⟩)
      (u_in wf_rely hF; rw [stepG_skip]; simp only [goes_go]; refine ⟨⟨rfl, by simp⟩, ?_⟩)
      (u_in wf_rely hF; rw [stepG_inBlock]; simp only [goes_go]; refine ⟨⟨rfl, by simp⟩, ?_⟩)
      (u_in wf_rely hF; rw [stepG_inBlock]; simp only [goes_go]; refine ⟨⟨rfl, by simp⟩, ?_⟩)
      (u_in wf_rely hF; rw [stepG_region]; simp only [goes_go, List.size_toArray, List.length_cons, List.length_nil, Nat.reduceAdd, Nat.zero_add, List.range, List.range.loop]; refine ⟨⟨rfl, by simp⟩, ?_⟩)
      have hwr : IntKind.i64.wrap ((i : Int) + 1) = ((i + 1 : Nat) : Int) := by rw [IntKind.wrap_i64]; omega
      (u_in wf_rely hF; refine goes_oper_k rfl rfl (by decide) (fun K' hK => ?_); go_simp; refine hK _ _ ⟨⟨rfl, fun e he => ?_⟩, ?_⟩; (have hm := mem_listed he; simp [go_sem, *] at hm); clear hK K')
      (u_in wf_rely hF; refine goes_oper_k rfl rfl (by decide) (fun K' hK => ?_); go_simp; refine hK _ _ ⟨⟨rfl, fun e he => ?_⟩, ?_⟩; (have hm := mem_listed he; simp [go_sem, *] at hm); clear hK K')
      (u_in wf_rely hF; rw [stepG_region_end]; simp only [goes_go]; refine ⟨⟨rfl, by simp⟩, ?_⟩)
      (u_in wf_rely hF; rw [stepG_inLoop]; simp only [goes_go]; refine ⟨⟨rfl, by simp⟩, ?_⟩)
      refine Goes.mono (ih (i + 1) (by omega) _ _ _ ⟨#[.pointer (some ⟨bd, 0, none⟩), .pointer (some ⟨bo, 0, none⟩), .pointer (some ⟨bi, 0, none⟩), .pointer (some ⟨bq, 0, none⟩), v4, .pointer (some ⟨s, 0, none⟩), v6, v7, .slice (some ⟨ab, ao, none⟩) n cap, .int .i64 n, .int .i64 ((i : Int) + 1), .bool true, .pointer (some ⟨ab, ao + i * 2, none⟩), .agg #[.string xs, .int .i64 xn], .chan (some c), .agg #[.string xs, .int .i64 xn], .chan (some q), .tuple #[.int .i64 0, .bool false, zS], .int .i64 0, .bool true, .bool false, .int .i64 ((i : Int) + 1)], ?_, rfl, rfl, rfl, rfl, rfl, rfl, rfl, rfl⟩ hF) (by omega)
      simp only [loopW, bodyW, Try.f50, Option.getD_some]
    · -- IT IS TOLD TO STOP
      replace hF := wf_rely hF r₂
      refine ⟨80, goesWeak (D := DWk (kO K fun b => O b ∨ b = s)) (fun _ _ _ x => dwk_q x) (fun _ _ x => x) ?_⟩
      rw [finish_sel, comm1]
      walk_nrm
      (u_in wf_rely hF; refine goes_oper_k rfl rfl (by decide) (fun K' hK => ?_); go_simp; refine hK _ _ ⟨⟨rfl, fun e he => ?_⟩, ?_⟩; (have hm := mem_listed he; simp [go_sem, *] at hm); clear hK K')
      (u_in wf_rely hF; refine goes_oper_k rfl rfl (by decide) (fun K' hK => ?_); go_simp; refine hK _ _ ⟨⟨rfl, fun e he => ?_⟩, ?_⟩; (have hm := mem_listed he; simp [go_sem, *] at hm); clear hK K')
      (u_in wf_rely hF; refine goes_oper_k rfl rfl (by decide) (fun K' hK => ?_); go_simp; refine hK _ _ ⟨⟨rfl, fun e he => ?_⟩, ?_⟩; (have hm := mem_listed he; simp [go_sem, *] at hm); clear hK K')
      (u_in wf_rely hF; rw [stepG_region_end]; simp only [goes_go]; refine ⟨⟨rfl, by simp⟩, ?_⟩)
      (u_in wf_rely hF; rw [stepG_block]; simp only [goes_go]; refine ⟨⟨rfl, by simp⟩, ?_⟩)
      (u_in wf_rely hF; rw [stepG_cond (t := false) (by first | rfl | (simp [Act.eval]; omega))]; simp only [goes_go, Bool.false_eq_true, ↓reduceIte]; refine ⟨⟨rfl, by simp⟩, ?_⟩)
      (u_in wf_rely hF; rw [stepG_cond (t := true) (by first | rfl | (simp [Act.eval]; omega))]; simp only [goes_go, ↓reduceIte]; refine ⟨⟨rfl, by simp⟩, ?_⟩)
      (u_in wf_rely hF; rw [stepG_ret']; simp only [goes_go]; refine ⟨⟨rfl, by simp⟩, ?_⟩)
      exact Goes.stop fun w₃ r₃ => closeW (wf_rely hF r₃) _ _
abbrev dBorn (bd bo bi bq : Nat) : Deferred := { target := .fn (.func 50) #[.pointer (some ⟨bd, 0, none⟩), .pointer (some ⟨bo, 0, none⟩), .pointer (some ⟨bi, 0, none⟩), .pointer (some ⟨bq, 0, none⟩)], args := #[] }
theorem nmW : (Try.f50.name == "runtime.NumGoroutine") = false := by kernel_rfl
theorem ntW : Try.f50.ntmps = 22 := by kernel_rfl
/-- ████ A SOURCE's GOROUTINE. ████ -/
theorem workerBorn (hF : WF K Wg q c bd bo bi bq a0 n cap items w) : WNext Try.prog wtG Wg q c K zI zS true (items.map prv) noO (born Try.prog (dBorn bd bo bi bq)) w := by
  refine wnext_of (m := 79) ?_
  rw [kO_no]
  refine Goes.step rfl fun w₁ h₁ => ?_
  replace hF := wf_rely hF h₁
  rw [dBorn, stepBornG Try.func50 nmW (c := bodyW) rfl, ntW, app22]
  simp only [goes_go]
  refine ⟨⟨rfl, by simp⟩, ?_⟩
  exact workerStart hF fun g w hg hw => by
    have := workerHead (items := items) n 0 (by omega) noO g w hg (by rw [kO_no]; exact hw)
    rw [kO_no] at this
    simpa using this
end
end Go.Proofs.Ytmllcfkgkkbkpaa.Pr
