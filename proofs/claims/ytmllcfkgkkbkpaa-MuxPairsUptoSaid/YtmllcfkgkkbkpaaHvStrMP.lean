/-
  Stream's CLOSURE, pairs: its second loop hands the things out.
-/
import Derived.Test.YtmllcfkgkkbkpaaHvTurnP
import Derived.Test.YtmllcfkgkkbkpaaPk8
namespace Go.Proofs.Ytmllcfkgkkbkpaa
open Go Go.Conc Go.RowKit Go.Conc.Lib Go.ConcR.Gen
open Go.ConcN (upd upd_ne upd_same WgLive)
open Go.ConcR (KK wgBlock WgAt stA smA rd wr mk DC0)
section
variable {P : Program} {ty : TypeId} {z z' : Value} {Post : Value → World → Prop} {σ : Ph} {pw : World} {fn : Frame → Prop} {Q : Exit → Act → Ph → World → Prop} {a : Act}
/-- .. that stores two cells. -/
theorem opsW_set2 {pt : TypeId → Bool} {S : FuncId → Bool} {cv : TypeId → TypeId → Bool} (C : CalmOn pt S cv P) (hG : ∀ b, σ.F b → P.globals.size ≤ b ∧ b < pw.heap.size) (hgs : P.globals.size ≤ pw.heap.size) {ops : Array Oper} {i : Nat} {rest : List Nat} {o : Oper} (ho : ops[i]? = some o) (hw : Region.wanted o (yielded ops a.tmps) = true) (hco : calmOp pt S cv o.op = true) (x y : Addr) (v u : Value) (hx : x.block < pw.heap.size) (hy : y.block < pw.heap.size)
    (h : ∀ κ t d (K : Act → World → Prop), (∀ a', OpsW P ty z z' Post fn ops rest Q a' σ ((pw.setCell x v).setCell y u) → K a' ((((grW P pw κ).setCell x v).setCell y u).re t d)) → uponV o a K ((execOp a.eval o).run P ((grW P pw κ).re t d))) : OpsW P ty z z' Post fn ops (i :: rest) Q a σ pw :=
  opsW_k C (fun b hb => (hG b hb).1) hgs ho hw hco fun κ t d K hK => h κ t d K fun a' ha => hK a' _ (opsW_re (by
    have hs : ((pw.setCell x v).setCell y u).heap.size = pw.heap.size := by simp
    rw [grW_setCell hx, grW_setCell (by simpa using hy)]
    have := opsW_gr (κ := κ) ha (by rw [hs]; exact fun y hy => (hG y hy).2)
    rw [hs] at this
    exact this))
end
end Go.Proofs.Ytmllcfkgkkbkpaa
namespace Go.Proofs.Ytmllcfkgkkbkpaa.Pr
open Go Go.Conc Go.RowKit Go.Conc.Lib Go.ConcR.Gen
open Go.ConcN (upd upd_ne upd_same WgLive)
open Go.ConcR (KK wgBlock WgAt stA smA rd wr mk DC0)
/-- A round of the caller's, beside workers that make blocks. -/
structure Gc (σ : Ph) (B : Nat → Prop) (w : World) (σ' : Ph) (B' : Nat → Prop) (w' : World) : Prop where
  same : σ' = { σ with F := σ'.F }
  f0 : ∀ x, σ.F x → σ'.F x
  f1 : ∀ x, σ'.F x → σ.F x ∨ (w.heap.size ≤ x ∧ x < w'.heap.size)
  gr : Grew B w B' w'
  nF : ∀ x, B' x → ¬ σ'.F x
/-- Stream's caller: its loop's record r stands at l; I between rounds, J when it has left. -/
structure Caller (Post : Value → World → Prop) (l : Nat) (r : Loop) (All : List (Nat × Value)) (I J : (Nat → Prop) → List (Nat × Value) → World → Prop) : Prop where
  stab : ∀ B d w w', I B d w → (∀ x, B x → w'.heap[x]? = w.heap[x]?) → w.heap.size ≤ w'.heap.size → I B d w'
  stabJ : ∀ B d w w', J B d w → (∀ x, B x → w'.heap[x]? = w.heap[x]?) → w.heap.size ≤ w'.heap.size → J B d w'
  record : ∀ B d w, I B d w → B l ∧ w.heap[l]? = some (.loop r)
  params : r.params.size = 2
  round : ∀ B d (i : Nat) v rest σ pw base cs, All = d ++ (i, v) :: rest → I B d pw → (∀ x, B x → x < pw.heap.size ∧ ¬ σ.F x) → (∀ x, σ.F x → Try.prog.globals.size ≤ x ∧ x < pw.heap.size) → Try.prog.globals.size ≤ pw.heap.size → σ.tag = .opn false →
    (∀ σ' B' pw', I B' (d ++ [(i, v)]) pw' → Gc σ B pw σ' B' pw' → MW Try.prog wtG zI zS Post σ' (G (base.finish (.bool true)) cs) pw') →
    (∀ σ' B' pw', J B' (d ++ [(i, v)]) pw' → Gc σ B pw σ' B' pw' → MW Try.prog wtG zI zS Post σ' (G (base.finish (.bool false)) cs) pw') →
    MW Try.prog wtG zI zS Post σ (G (Frame.round l r.fn ((r.params.zip #[Value.int .i64 i, v]).foldl (fun tmps (t, a) => tmps.setIfInBounds t a) r.tmps) r.assign r.body .normal) (base :: cs)) pw
noncomputable def loopT2 : Code := match restT with
  | .seq _ (.block _ (.loop c)) => c
  | _ => .skip
theorem nmTurn : (Try.f27.name == "runtime.NumGoroutine") = false := by kernel_rfl
/-- The phase while the things come. -/
structure Ph2 (σ1 : Ph) (pw0 : World) (σ : Ph) (w : World) : Prop where
  same : σ = { σ1 with rem := σ.rem, F := σ.F }
  fb : ∀ x, σ.F x → Try.prog.globals.size ≤ x ∧ x < w.heap.size
  f0 : ∀ x, σ1.F x → σ.F x
  f1 : ∀ x, σ.F x → σ1.F x ∨ pw0.heap.size ≤ x
  gs : Try.prog.globals.size ≤ w.heap.size
theorem Ph2.gx {σ1 σ σ' : Ph} {pw0 w w' : World} {row : Option Nat} (h : Ph2 σ1 pw0 σ w) (hw : pw0.heap.size ≤ w.heap.size) (g : Gx row σ w σ' w') : Ph2 σ1 pw0 σ' w' ∧ σ'.rem = σ.rem := by
  obtain ⟨ρ, FX, rfl⟩ : ∃ ρ F, σ = { σ1 with rem := ρ, F := F } := ⟨_, _, h.same⟩
  obtain ⟨FY, rfl⟩ : ∃ F, σ' = { ({ σ1 with rem := ρ, F := FX } : Ph) with F := F } := ⟨_, g.same⟩
  have hs := g.size
  refine ⟨⟨rfl, fun x hx => ?_, fun x hx => g.f0 x (h.f0 x hx), fun x hx => ?_, by have := h.gs; omega⟩, rfl⟩
  · rcases g.f1 x hx with y | y
    · have := h.fb x y; exact ⟨this.1, by omega⟩
    · exact ⟨by have := h.gs; omega, y.2⟩
  · rcases g.f1 x hx with y | y
    · exact h.f1 x y
    · exact .inr (by omega)
theorem Ph2.set {σ1 σ : Ph} {pw0 w w' : World} (h : Ph2 σ1 pw0 σ w) (hs : w.heap.size ≤ w'.heap.size) : Ph2 σ1 pw0 σ w' :=
  ⟨h.same, fun x hx => ⟨(h.fb x hx).1, by have := (h.fb x hx).2; omega⟩, h.f0, h.f1, by have := h.gs; omega⟩
theorem Ph2.took {σ1 σ : Ph} {pw0 w : World} {j : Nat} {vs : List Value} (h : Ph2 σ1 pw0 σ w) : Ph2 σ1 pw0 (took σ j vs) w := by
  obtain ⟨ρ, FX, rfl⟩ : ∃ ρ F, σ = { σ1 with rem := ρ, F := F } := ⟨_, _, h.same⟩
  exact ⟨rfl, h.fb, h.f0, h.f1, h.gs⟩
theorem Ph2.gc {σ1 σ σ' : Ph} {pw0 w w' : World} {B B' : Nat → Prop} (h : Ph2 σ1 pw0 σ w) (hw : pw0.heap.size ≤ w.heap.size) (g : Gc σ B w σ' B' w') : Ph2 σ1 pw0 σ' w' ∧ σ'.rem = σ.rem := by
  obtain ⟨ρ, FX, rfl⟩ : ∃ ρ F, σ = { σ1 with rem := ρ, F := F } := ⟨_, _, h.same⟩
  obtain ⟨FY, rfl⟩ : ∃ F, σ' = { ({ σ1 with rem := ρ, F := FX } : Ph) with F := F } := ⟨_, g.same⟩
  have hs := g.gr.size
  refine ⟨⟨rfl, fun x hx => ?_, fun x hx => g.f0 x (h.f0 x hx), fun x hx => ?_, by have := h.gs; omega⟩, rfl⟩
  · rcases g.f1 x hx with y | y
    · have := h.fb x y; exact ⟨this.1, by omega⟩
    · exact ⟨by have := h.gs; omega, y.2⟩
  · rcases g.f1 x hx with y | y
    · exact h.f1 x y
    · exact .inr (by omega)
/-- At the head of the second loop, k things have come. -/
def Inv2 (B0 : Nat → Prop) (pw0 : World) (σ1 : Ph) (s1 l bp : Nat) (picks : List Int) (N : Nat) (c6 c7 : Value) (All : List (Nat × Value)) (I : (Nat → Prop) → List (Nat × Value) → World → Prop) (k : Nat) (a : Act) (σ : Ph) (w : World) : Prop :=
  ∃ (T : Array Value) (d : List (Nat × Value)) (B : Nat → Prop), a = ⟨T, [dCloseA #[58] σ1.quit, dcall 23 #[.pointer (some ⟨σ1.Wg, 0, none⟩)]]⟩ ∧ T.size = 75 ∧
    T[0]? = some (.func (.yield l) #[] #[]) ∧ T[2]? = some (.pointer (some ⟨bp, 0, none⟩)) ∧ T[6]? = some c6 ∧ T[7]? = some c7 ∧ T[10]? = some (.int .i64 k) ∧
    Ph2 σ1 pw0 σ w ∧ w.ownsRow s1 tC 1 c6 N ((List.range N).map fun i => .chan (some (σ1.ch (σ1.first + i)))) ∧ OwnI w s1 c7 (lens (remsOf σ.rem σ1.first N)) ∧
    d.length = k ∧ All = d ++ things (remsOf σ.rem σ1.first N) picks k ∧ I B d w ∧ Grew B0 pw0 B w ∧ (∀ x, B x → some x ≠ c6.ownBlock ∧ some x ≠ c7.ownBlock ∧ ¬ σ.F x)
/-- Behind its return, the deferred calls before it. -/
def Out2 (B0 : Nat → Prop) (pw0 : World) (σ1 : Ph) (All : List (Nat × Value)) (I J : (Nat → Prop) → List (Nat × Value) → World → Prop) (a : Act) (σ : Ph) (w : World) : Prop :=
  a.defers = [dCloseA #[58] σ1.quit, dcall 23 #[.pointer (some ⟨σ1.Wg, 0, none⟩)]] ∧ ∃ (d : List (Nat × Value)) (B : Nat → Prop), Ph2 σ1 pw0 σ w ∧ ((I B d w ∧ d = All) ∨ (J B d w ∧ ∃ rest, All = d ++ rest)) ∧ Grew B0 pw0 B w ∧ (∀ x, B x → ¬ σ.F x)
theorem own_eq {g' g n cap : Nat} (e : (Value.slice (some ⟨g', 0, none⟩) n cap).ownBlock = some g) : g' = g := by simpa [Value.ownBlock] using e
theorem pair_set {w : World} {sv : Nat} {v0 v1 a b : Value} {e : TypeId} (h : w.heap[sv]? = some (.cells #[v0, v1] e)) : ((w.setCell ⟨sv, 0, none⟩ a).setCell ⟨sv, 1, none⟩ b).heap[sv]? = some (.cells #[a, b] e) ∧ (∀ x, x ≠ sv → ((w.setCell ⟨sv, 0, none⟩ a).setCell ⟨sv, 1, none⟩ b).heap[x]? = w.heap[x]?) ∧
    ((w.setCell ⟨sv, 0, none⟩ a).setCell ⟨sv, 1, none⟩ b).heap.size = w.heap.size ∧ ((w.setCell ⟨sv, 0, none⟩ a).setCell ⟨sv, 1, none⟩ b).os = w.os ∧ ((w.setCell ⟨sv, 0, none⟩ a).setCell ⟨sv, 1, none⟩ b).output = w.output := by
  have h1 : (w.setCell ⟨sv, 0, none⟩ a).heap[sv]? = some (.cells #[a, v1] e) := by
    rw [heap_setCell_same w sv 0 _ _ _ h]; rfl
  refine ⟨?_, fun x hx => ?_, by simp, rfl, rfl⟩
  · rw [heap_setCell_same _ sv 1 _ _ _ h1]; rfl
  · rw [heap_setCell_other _ ⟨sv, 1, none⟩ x _ hx, heap_setCell_other _ ⟨sv, 0, none⟩ x _ hx]
section
variable {Post : Value → World → Prop} {σ σ1 : Ph} {pw pw0 : World} {Q : Exit → Act → Ph → World → Prop} {fn : Frame → Prop} {l bp N k s1 pn pc : Nat} {pa : Option Addr} {picks : List Int} {c6 c7 : Value} {All : List (Nat × Value)} {B0 : Nat → Prop} {r : Loop} {I J : (Nat → Prop) → List (Nat × Value) → World → Prop} {a : Act}
set_option maxRecDepth 100000 in
set_option maxHeartbeats 8000000 in
/-- A ROUND OF THE SECOND LOOP. -/
theorem strRound2 (hC : Caller Post l r All I J) (hPV : ∀ q ∈ All, ∃ y : PV, q.2 = prv y) (hN : N < 1000000) (htot : All.length < 4000000000000000000) (hs1 : pw0.heap.size ≤ s1) (hbp : pw0.cell? ⟨bp, 0, none⟩ = some (.slice pa pn pc)) (hpicks : InI pw0 pa picks) (hpn : picks.length = pn) (hbB : ¬ B0 bp) (hpB : ∀ ad, pa = some ad → 0 < pn → ¬ B0 ad.block)
    (htag : σ1.tag = .opn false) (hcl : σ1.closed = false) (hn1 : σ1.n = N) (hI : Inv2 B0 pw0 σ1 s1 l bp picks N c6 c7 All I k a σ pw)
    (hret : ∀ a' σ' pw', Out2 B0 pw0 σ1 All I J a' σ' pw' → Q .ret a' σ' pw') :
    wpW Try.prog wtG zI zS Post fn loopT2 (thenM (fun a' σ' pw' => Inv2 B0 pw0 σ1 s1 l bp picks N c6 c7 All I (k + 1) a' σ' pw' ∧ k < All.length) Q) a σ pw := by
  obtain ⟨T, dn, B, rfl, hT, t0, t2, t6, t7, t10, hp, own6, own7, hdk, hAll, hIB, hgr, hsep⟩ := hI
  obtain ⟨v0, v1, v2, v3, v4, v5, v6, v7, v8, v9, v10, v11, v12, v13, v14, v15, v16, v17, v18, v19, v20, v21, v22, v23, v24, v25, v26, v27, v28, v29, v30, v31, v32, v33, v34, v35, v36, v37, v38, v39, v40, v41, v42, v43, v44, v45, v46, v47, v48, v49, v50, v51, v52, v53, v54, v55, v56, v57, v58, v59, v60, v61, v62, v63, v64, v65, v66, v67, v68, v69, v70, v71, v72, v73, v74, rfl⟩ := array75 T hT
  simp only [List.getElem?_toArray, List.getElem?_cons_zero, List.getElem?_cons_succ, Option.some.injEq] at t0 t2 t6 t7 t10
  subst t0 t2 t6 t7 t10
  have hret' : ∀ a' σ' pw', RowKit.Hid (Out2 B0 pw0 σ1 All I J a' σ' pw' → Q .ret a' σ' pw') := fun a' σ' pw' => Lib.hid (hret a' σ' pw')
  clear hret
  have hGW := hp.fb
  have hgs := hp.gs
  have hbpl : bp < pw0.heap.size := World.block_lt_of_cell? pw0 _ hbp
  have hcbp : pw.cell? ⟨bp, 0, none⟩ = some (.slice pa pn pc) := (World.cell?_of_block (hgr.low _ hbpl hbB)).trans hbp
  have HBP := Lib.hid hcbp
  clear hcbp
  have hpick : InI pw pa picks := InV.keep hpicks fun ad ha h0 => hgr.low _ (hpicks.low ad ha h0) (hpB ad ha (by rw [iv_length] at h0; omega))
  have HL := Lib.hid (things_len (remsOf σ.rem σ1.first N) picks k)
  simp only [loopT2, restT, bodyT, Try.f29, Option.getD_some]
  refine wpW_seq (wpW_block (wpW_seq (wpW_region ?_)))
  simp only [List.size_toArray, List.length_cons, List.length_nil, Nat.zero_add, List.range, List.range.loop]
  refine opsW_read calmM hGW hgs rfl rfl rfl (fun κ t d K hK => ?_)
  go_simp
  refine hK _ ?_
  clear hK
  walk_nrm
  refine opsW_nil ?_
  show wpW _ _ _ _ _ _ _ _ _ _ _
  refine wpW_seq (wpW_mono (Q1 := fun e a' σ' pw' => e = .normal ∧ σ = σ' ∧ pw = pw' ∧ ∃ x39 x40 x41 x42 x43 x44 x45 x46 : Value, a' = ⟨#[(.func (.yield l) #[] #[]), v1, .pointer (some ⟨bp, 0, none⟩), v3, v4, v5, v6, v7, v8, v9, .int .i64 k, .int .i64 (picks.getD k 0), v12, v13, v14, v15, v16, v17, v18, v19, v20, v21, v22, v23, v24, v25, v26, v27, v28, v29, v30, v31, v32, v33, v34, v35, v36, v37, v38, x39, x40, x41, x42, x43, x44, x45, x46, v47, v48, v49, v50, v51, v52, v53, v54, v55, v56, v57, v58, v59, v60, v61, v62, v63, v64, v65, v66, v67, v68, v69, v70, v71, v72, v73, v74], [dCloseA #[58] σ1.quit, dcall 23 #[.pointer (some ⟨σ1.Wg, 0, none⟩)]]⟩) ?_ ?_)
  · refine wpW_seq (wpW_region ?_)
    simp only [List.size_toArray, List.length_cons, List.length_nil, Nat.reduceAdd, Nat.zero_add, List.range, List.range.loop]
    refine opsW_read calmM hGW hgs rfl rfl rfl (fun κ t d K hK => ?_)
    go_simp
    refine hK _ ?_
    clear hK
    walk_nrm
    refine opsW_read calmM hGW hgs rfl rfl rfl (fun κ t d K hK => ?_)
    have hx := grW_cell (P := Try.prog) (k := κ) HBP.out (t := t) (d := d)
    go_simp
    refine hK _ ?_
    clear hK hx
    walk_nrm
    refine opsW_read calmM hGW hgs rfl rfl rfl (fun κ t d K hK => ?_)
    go_simp
    refine hK _ ?_
    clear hK
    walk_nrm
    by_cases hk : k < pn
    · have hlt : decide ((k : Int) < (pn : Int)) = true := by simp; exact hk
      have hk' : (k : Int) < (pn : Int) := by omega
      obtain ⟨pb, po, rfl, hc⟩ := hpick.at (k := k) (by omega)
      have hg : picks.getD k 0 = picks[k] := by rw [List.getD_eq_getElem?_getD, List.getElem?_eq_getElem (by omega)]; rfl
      rw [hg]
      refine opsW_read calmM hGW hgs rfl rfl rfl (fun κ t d K hK => ?_)
      go_simp
      refine hK _ ?_
      clear hK
      walk_nrm
      refine opsW_nil ?_
      show wpW _ _ _ _ _ _ _ _ _ _ _
      refine wpW_cond (t := true) (by first | rfl | (simp [Act.eval]; omega)) ?_
      simp only [↓reduceIte]
      refine wpW_region ?_
      simp only [List.size_toArray, List.length_cons, List.length_nil, Nat.reduceAdd, Nat.zero_add, List.range, List.range.loop]
      refine opsW_read calmM hGW hgs rfl rfl rfl (fun κ t d K hK => ?_)
      have hx := grW_cell (P := Try.prog) (k := κ) HBP.out (t := t) (d := d)
      go_simp
      refine hK _ ?_
      clear hK hx
      walk_nrm
      refine opsW_read calmM hGW hgs rfl rfl rfl (fun κ t d K hK => ?_)
      go_simp
      refine hK _ ?_
      clear hK
      walk_nrm
      refine opsW_read calmM hGW hgs rfl rfl rfl (fun κ t d K hK => ?_)
      go_simp
      refine hK _ ?_
      clear hK
      walk_nrm
      refine opsW_read calmM hGW hgs rfl rfl rfl (fun κ t d K hK => ?_)
      have hx := grW_cell (P := Try.prog) (k := κ) hc (t := t) (d := d)
      go_simp
      refine hK _ ?_
      clear hK hx
      walk_nrm
      refine opsW_read calmM hGW hgs rfl rfl rfl (fun κ t d K hK => ?_)
      go_simp
      refine hK _ ?_
      clear hK
      walk_nrm
      refine opsW_nil ?_
      exact ⟨rfl, rfl, rfl, _, _, _, _, _, _, _, _, rfl⟩
    · have hlt : decide ((k : Int) < (pn : Int)) = false := by simp; omega
      have hg : picks.getD k 0 = 0 := by rw [List.getD_eq_getElem?_getD, List.getElem?_eq_none (by omega)]; rfl
      rw [hg]
      refine opsW_read calmM hGW hgs rfl rfl rfl (fun κ t d K hK => ?_)
      go_simp
      refine hK _ ?_
      clear hK
      walk_nrm
      refine opsW_nil ?_
      show wpW _ _ _ _ _ _ _ _ _ _ _
      refine wpW_cond (t := false) (by first | rfl | (simp [Act.eval]; omega)) ?_
      simp only [Bool.false_eq_true, ↓reduceIte]
      refine wpW_skip ?_
      exact ⟨rfl, rfl, rfl, _, _, _, _, _, _, _, _, rfl⟩
  rintro _ _ _ _ ⟨rfl, rfl, rfl, x39, x40, x41, x42, x43, x44, x45, x46, rfl⟩
  show wpW _ _ _ _ _ _ _ _ _ _ _
  refine wpW_seq (wpW_region ?_)
  simp only [List.size_toArray, List.length_cons, List.length_nil, Nat.reduceAdd, Nat.zero_add, List.range, List.range.loop]
  refine opsW_read calmM hGW hgs rfl rfl rfl (fun κ t d K hK => ?_)
  go_simp
  refine hK _ ?_
  clear hK
  walk_nrm
  refine opsW_read calmM hGW hgs rfl rfl rfl (fun κ t d K hK => ?_)
  go_simp
  refine hK _ ?_
  clear hK
  walk_nrm
  refine opsW_enter (f := 27) rfl rfl (by intro c e; cases e) (fun w => run_enterOp rfl Try.func27 nmTurn rfl w) (fun base cs hb => ?_)
  walk_nrm
  obtain ⟨p7, c7c, rfl, _, _, in7, _⟩ := own7.shape (n := N) (by rw [lens_length, remsOf_len])
  refine turnW (pick := picks.getD k 0) hGW hgs in7 (by rw [lens_length, remsOf_len]) hN fun σ2 pw1 g1 => ?_
  have hpwz : pw0.heap.size ≤ pw.heap.size := hgr.size
  obtain ⟨hp1, hrem1⟩ := hp.gx (row := none) hpwz g1.x
  have hIB1 := hC.stab B dn pw pw1 hIB (fun x hx => g1.low x (hgr.own x hx).1) g1.size
  have hgr1 : Grew B0 pw0 B pw1 := hgr.step g1.size (fun x hx => g1.low x (by omega)) g1.os g1.output
  have own61 := owns_keep (w' := pw1) own6 (fun g hg _ => g1.low g hg)
  have own71 : OwnI pw1 s1 _ _ := owns_keep (w' := pw1) own7 (fun g hg _ => g1.low g hg)
  have hsep1 : ∀ x, B x → some x ≠ v6.ownBlock ∧ some x ≠ (Value.slice p7 N c7c).ownBlock ∧ ¬ σ2.F x := fun x hx => ⟨(hsep x hx).1, (hsep x hx).2.1, g1.nF (hsep x hx).2.2 (hgr.own x hx).1⟩
  rw [← hrem1] at own71 hAll HL ⊢
  clear hpick HBP hIB hgr hsep own6 own7 in7 g1 hp hGW hgs hrem1 hpwz
  have hGW := hp1.fb
  have hgs := hp1.gs
  rcases turn_left (rems := remsOf σ2.rem σ1.first N) (pick := picks.getD k 0) with ⟨hT1, _⟩ | ⟨i, x, xs, hT1, hi, hr⟩
  · have hE := things_end hT1
    rw [hT1]
    refine hb _ _ _ ?_
    clear hb
    walk_nrm
    refine opsW_read calmM hGW hgs rfl rfl rfl (fun κ t d K hK => ?_)
    go_simp
    refine hK _ ?_
    clear hK
    walk_nrm
    refine opsW_nil ?_
    show wpW _ _ _ _ _ _ _ _ _ _ _
    refine wpW_seq (wpW_seq (wpW_region ?_))
    simp only [List.size_toArray, List.length_cons, List.length_nil, Nat.reduceAdd, Nat.zero_add, List.range, List.range.loop]
    refine opsW_read calmM hGW hgs rfl rfl rfl (fun κ t d K hK => ?_)
    go_simp
    refine hK _ ?_
    clear hK
    walk_nrm
    refine opsW_read calmM hGW hgs rfl rfl rfl (fun κ t d K hK => ?_)
    go_simp
    refine hK _ ?_
    clear hK
    walk_nrm
    refine opsW_nil ?_
    show wpW _ _ _ _ _ _ _ _ _ _ _
    refine wpW_cond (t := true) (by first | rfl | (simp [Act.eval]; omega)) ?_
    simp only [↓reduceIte]
    refine wpW_ret ?_
    refine (hret' _ _ _).out ⟨rfl, dn, B, hp1, .inl ⟨hIB1, ?_⟩, hgr1, fun x hx => (hsep1 x hx).2.2⟩
    rw [hAll, hE, List.append_nil]
  rw [remsOf_len] at hi
  have hi' : ((i : Int) < 0) = False := by simp
  have hS := things_step hT1 hr
  have hxP : ∃ ys yi, x = .agg #[.string ys, .int .i64 yi] := by
    obtain ⟨y, hy⟩ := hPV (i, x) (by rw [hAll, hS]; simp)
    exact ⟨y.1, y.2, hy⟩
  obtain ⟨ys, yi, rfl⟩ := hxP
  rw [hT1]
  refine hb _ _ _ ?_
  clear hb
  walk_nrm
  refine opsW_read calmM hGW hgs rfl rfl rfl (fun κ t d K hK => ?_)
  go_simp
  refine hK _ ?_
  clear hK
  walk_nrm
  refine opsW_nil ?_
  show wpW _ _ _ _ _ _ _ _ _ _ _
  refine wpW_seq (wpW_seq (wpW_region ?_))
  simp only [List.size_toArray, List.length_cons, List.length_nil, Nat.reduceAdd, Nat.zero_add, List.range, List.range.loop]
  refine opsW_read calmM hGW hgs rfl rfl rfl (fun κ t d K hK => ?_)
  go_simp
  refine hK _ ?_
  clear hK
  walk_nrm
  refine opsW_read calmM hGW hgs rfl rfl rfl (fun κ t d K hK => ?_)
  go_simp
  refine hK _ ?_
  clear hK
  walk_nrm
  refine opsW_nil ?_
  show wpW _ _ _ _ _ _ _ _ _ _ _
  refine wpW_cond (t := false) (by first | rfl | (simp [Act.eval]; omega)) ?_
  simp only [Bool.false_eq_true, ↓reduceIte]
  refine wpW_skip ?_
  show wpW _ _ _ _ _ _ _ _ _ _ _
  refine wpW_seq (wpW_region ?_)
  simp only [List.size_toArray, List.length_cons, List.length_nil, Nat.reduceAdd, Nat.zero_add, List.range, List.range.loop]
  have hN0 : 0 < N := by omega
  obtain ⟨g6, cap6, rfl, hg6, hg6l⟩ := owns_block own61 hN0
  have hc6 : pw1.cell? ⟨g6, i, none⟩ = some (.chan (some (σ1.ch (σ1.first + i)))) := by
    rw [World.ownsRow.cellAt own61 i (by omega), List.getElem?_map, List.getElem?_range hi]
    rfl
  have hiN : (i : Int) < (N : Int) := by omega
  refine opsW_read calmM hGW hgs rfl rfl rfl (fun κ t d K hK => ?_)
  go_simp
  refine hK _ ?_
  clear hK
  walk_nrm
  refine opsW_read calmM hGW hgs rfl rfl rfl (fun κ t d K hK => ?_)
  go_simp
  refine hK _ ?_
  clear hK
  walk_nrm
  refine opsW_read calmM hGW hgs rfl rfl rfl (fun κ t d K hK => ?_)
  go_simp
  refine hK _ ?_
  clear hK
  walk_nrm
  refine opsW_read calmM hGW hgs rfl rfl rfl (fun κ t d K hK => ?_)
  have hx := grW_cell (P := Try.prog) (k := κ) hc6 (t := t) (d := d)
  go_simp
  refine hK _ ?_
  clear hK hx
  walk_nrm
  rw [remsOf_get hi] at hr
  have hr' : σ2.rem (σ1.first + i) = .agg #[.string ys, .int .i64 yi] :: xs := Option.some.inj hr
  have hAll0 := hAll
  have hch2 : σ2.ch = σ1.ch ∧ σ2.closed = false ∧ σ2.first = σ1.first ∧ σ2.n = N ∧ σ2.tag = .opn false := by rw [hp1.same]; exact ⟨rfl, hcl, rfl, hn1, htag⟩
  obtain ⟨q1, q2, q3, q4, q5⟩ := hch2
  refine opsW_recv (zz := zI) (j := σ1.first + i) (v := .agg #[.string ys, .int .i64 yi]) (vs := xs) rfl rfl (by intro c e; cases e) (fun w => ?_) q2 hr' (by omega) (by omega) ?_
  · rw [q1]
    constructor
    · simp [execOp, Act.eval, rcase, go_sem]
      rfl
    · simp [execOp, Act.eval, go_sem]
  walk_nrm
  have hp2 := hp1.took (j := σ1.first + i) (vs := xs)
  have hrem2 : remsOf (took σ2 (σ1.first + i) xs).rem σ1.first N = (remsOf σ2.rem σ1.first N).set i xs := by
    show remsOf (upd σ2.rem _ xs) _ _ = _
    exact remsOf_set
  have hsep2 : ∀ x, B x → some x ≠ (Value.slice (some ⟨g6, 0, none⟩) N cap6).ownBlock ∧ some x ≠ (Value.slice p7 N c7c).ownBlock ∧ ¬ (took σ2 (σ1.first + i) xs).F x := hsep1
  have q5' : (took σ2 (σ1.first + i) xs).tag = .opn false := q5
  rw [hS, ← hrem2] at hAll
  have hlen : (lens (remsOf σ2.rem σ1.first N))[i]? = some ((xs.length : Int) + 1) := by
    unfold lens
    rw [List.getElem?_map, remsOf_get hi, hr']
    simp
  have hxl : xs.length + 1 ≤ All.length := by
    have h1 := total_get (remsOf_get (ρ := σ2.rem) (first := σ1.first) hi)
    rw [hr'] at h1
    have h2 := HL.out
    have h3 := congrArg List.length hAll0
    rw [List.length_append, h2] at h3
    simp only [List.length_cons] at h1
    omega
  have own7l := own71
  clear own71
  generalize hσ3 : took σ2 (σ1.first + i) xs = σ3 at hp2 hrem2 hsep2 q5' hAll ⊢
  clear hσ3 hsep1 hp1 hGW hgs
  have hGW := hp2.fb
  have hgs := hp2.gs
  refine opsW_read calmM hGW hgs rfl rfl rfl (fun κ t d K hK => ?_)
  go_simp
  refine hK _ ?_
  clear hK
  walk_nrm
  refine opsW_read calmM hGW hgs rfl rfl rfl (fun κ t d K hK => ?_)
  go_simp
  refine hK _ ?_
  clear hK
  walk_nrm
  refine opsW_read calmM hGW hgs rfl rfl rfl (fun κ t d K hK => ?_)
  go_simp
  refine hK _ ?_
  clear hK
  walk_nrm
  refine opsW_new (ob := .cells #[.string ⟨#[]⟩, .int .i64 0] tP) (f := fun s => .pointer (some ⟨s, 0, none⟩)) (fun x hx => (hGW x hx).2) rfl rfl rfl (by simp) (fun w => ⟨by go_simp, by simp [go_sem]⟩) fun σ4 pw2 sv g2 h2 f2 l2 z2 => ?_
  walk_nrm
  have hpwz : pw0.heap.size ≤ pw1.heap.size := hgr1.size
  obtain ⟨hp4, hrem4⟩ := hp2.gx (row := none) hpwz g2.x
  have q6 : σ4.tag = .opn false := by rw [g2.same]; exact q5'
  rw [← hrem4] at hAll hrem2
  have hIB2 := hC.stab B dn pw1 pw2 hIB1 (fun x hx => g2.low x (hgr1.own x hx).1) g2.size
  have hgr2 : Grew B0 pw0 B pw2 := hgr1.step g2.size (fun x hx => g2.low x (by omega)) g2.os g2.output
  have own62 := owns_keep (w' := pw2) own61 (fun g hg _ => g2.low g hg)
  have own72 : OwnI pw2 s1 _ _ := owns_keep (w' := pw2) own7l (fun g hg _ => g2.low g hg)
  have hsep4 : ∀ x, B x → some x ≠ (Value.slice (some ⟨g6, 0, none⟩) N cap6).ownBlock ∧ some x ≠ (Value.slice p7 N c7c).ownBlock ∧ ¬ σ4.F x := fun x hx => ⟨(hsep2 x hx).1, (hsep2 x hx).2.1, g2.nF (hsep2 x hx).2.2 (hgr1.own x hx).1⟩
  have hBs : ∀ x, B x → x < sv := fun x hx => by have := (hgr1.own x hx).1; omega
  have hg6s : g6 < sv := by omega
  clear g2 own61 own7l hIB1 hgr1 hsep2 hrem4 hp2 hGW hgs hpwz f2 hc6
  have hGW := hp4.fb
  have hgs := hp4.gs
  refine opsW_set2 calmM hGW hgs rfl rfl rfl ⟨sv, 0, none⟩ ⟨sv, 1, none⟩ (.string ys) (.int .i64 yi) (by show sv < _; omega) (by show sv < _; omega) (fun κ t d K hK => ?_)
  have hx0 : ((grW Try.prog pw2 κ).re t d).heap[sv]? = some (.cells #[.string ⟨#[]⟩, .int .i64 0] tP) := (grW_at (by omega)).trans h2
  obtain ⟨hx1, hx2, hx3, hx4⟩ := cell_row2 hx0
  go_simp
  refine hK _ ?_
  clear hK hx0 hx1 hx2 hx3 hx4
  obtain ⟨h3, hoth3, hsz3, hos3, hout3⟩ := pair_set (a := .string ys) (b := .int .i64 yi) h2
  generalize (pw2.setCell ⟨sv, 0, none⟩ (.string ys)).setCell ⟨sv, 1, none⟩ (.int .i64 yi) = pw3 at h3 hoth3 hsz3 hos3 hout3 ⊢
  have hp5 := hp4.set (w' := pw3) (by omega)
  have hIB3 := hC.stab B dn pw2 pw3 hIB2 (fun x hx => hoth3 x (by have := hBs x hx; omega)) (by omega)
  have hgr3 : Grew B0 pw0 B pw3 := hgr2.step (by omega) (fun x hx => hoth3 x (by have := hgr2.size; omega)) hos3 hout3
  have own63 := owns_keep (w' := pw3) own62 (fun g hg e => hoth3 g (by have := own_eq e; omega))
  obtain ⟨g7, cap7, e7, hg7, hg7l⟩ := owns_block own72 (by rw [lens_length, remsOf_len]; exact hN0)
  rw [lens_length, remsOf_len] at e7
  simp only [Value.slice.injEq, true_and] at e7
  obtain ⟨rfl, rfl⟩ := e7
  have hg7s : g7 < sv := by
    have := (World.ownsRow.lt own72 g7 rfl).2
    have h8 := own72
    rcases Nat.lt_or_ge g7 sv with h | h
    · exact h
    · exfalso
      have : g7 = sv := by omega
      subst this
      rcases own72.2 with ⟨_, h0⟩ | ⟨g, cap, cur, e, _, hg, _⟩
      · rw [lens_length, remsOf_len] at h0; omega
      · simp only [Value.slice.injEq, Option.some.injEq, Addr.mk.injEq] at e
        obtain ⟨⟨rfl, _⟩, _⟩ := e
        rw [h2] at hg
        cases hg
  have own73 : OwnI pw3 s1 _ _ := owns_keep (w' := pw3) own72 (fun g hg e => hoth3 g (by have := own_eq e; omega))
  have hne67 : g6 ≠ g7 := fun e => by
    have := owns_apart own63 own73 (by decide) g7 rfl
    rw [e] at this
    exact this rfl
  clear hoth3 hIB2 hgr2 own62 own72 hp4 h2 hos3 hout3 hGW hgs
  have hGW := hp5.fb
  have hgs := hp5.gs
  walk_nrm
  refine opsW_read calmM hGW hgs rfl rfl rfl (fun κ t d K hK => ?_)
  go_simp
  refine hK _ ?_
  clear hK
  walk_nrm
  refine opsW_nil ?_
  show wpW _ _ _ _ _ _ _ _ _ _ _
  refine wpW_seq (wpW_region ?_)
  simp only [List.size_toArray, List.length_cons, List.length_nil, Nat.reduceAdd, Nat.zero_add, List.range, List.range.loop]
  have hc7 : pw3.cell? ⟨g7, i, none⟩ = some (.int .i64 ((xs.length : Int) + 1)) := by
    have h1 := own73
    unfold OwnI at h1
    rw [lens_length, remsOf_len] at h1
    rw [World.ownsRow.cellAt h1 i (by omega)]
    unfold iv
    rw [List.getElem?_map, hlen]
    rfl
  obtain ⟨own7s, hoth, hfr7⟩ := OwnI.stored (n := N) (by rw [lens_length, remsOf_len]) own73 i (xs.length : Int)
  rw [← lens_set, ← hrem2] at own7s
  have hw1 : IntKind.i64.wrap ((xs.length : Int) + 1 - 1) = (xs.length : Int) := by rw [IntKind.wrap_i64]; omega
  have hw2 : IntKind.i64.wrap (xs.length : Int) = (xs.length : Int) := by rw [IntKind.wrap_i64]; omega
  refine opsW_read calmM hGW hgs rfl rfl rfl (fun κ t d K hK => ?_)
  go_simp
  refine hK _ ?_
  clear hK
  walk_nrm
  refine opsW_read calmM hGW hgs rfl rfl rfl (fun κ t d K hK => ?_)
  go_simp
  refine hK _ ?_
  clear hK
  walk_nrm
  refine opsW_read calmM hGW hgs rfl rfl rfl (fun κ t d K hK => ?_)
  go_simp
  refine hK _ ?_
  clear hK
  walk_nrm
  refine opsW_read calmM hGW hgs rfl rfl rfl (fun κ t d K hK => ?_)
  have hx := grW_cell (P := Try.prog) (k := κ) hc7 (t := t) (d := d)
  go_simp
  refine hK _ ?_
  clear hK hx
  walk_nrm
  refine opsW_read calmM hGW hgs rfl rfl rfl (fun κ t d K hK => ?_)
  go_simp
  refine hK _ ?_
  clear hK
  walk_nrm
  refine opsW_read calmM hGW hgs rfl rfl rfl (fun κ t d K hK => ?_)
  go_simp
  refine hK _ ?_
  clear hK
  walk_nrm
  refine opsW_set calmM hGW hgs rfl rfl rfl ⟨g7, i, none⟩ (.int .i64 (xs.length : Int)) (by show g7 < _; omega) (fun κ t d K hK => ?_)
  have hx := grW_cell (P := Try.prog) (k := κ) hc7 (t := t) (d := d)
  have hx2 : ((grW Try.prog pw3 κ).re t d).frozen? ⟨g7, i, none⟩ = false := by
    have h1 : OwnI ((grW Try.prog pw3 κ).re t d) s1 (.slice (some ⟨g7, 0, none⟩) N c7c) (lens (remsOf σ2.rem σ1.first N)) := owns_keep own73 (fun g hg _ => grW_at hg)
    exact (OwnI.stored (n := N) (by rw [lens_length, remsOf_len]) h1 i (xs.length : Int)).2.2
  go_simp
  refine hK _ ?_
  clear hK hx hx2
  have hsz4 : pw3.heap.size ≤ (pw3.setCell ⟨g7, i, none⟩ (.int .i64 (xs.length : Int))).heap.size := by simp
  have hos4 : (pw3.setCell ⟨g7, i, none⟩ (.int .i64 (xs.length : Int))).os = pw3.os := rfl
  have hout4 : (pw3.setCell ⟨g7, i, none⟩ (.int .i64 (xs.length : Int))).output = pw3.output := rfl
  generalize pw3.setCell ⟨g7, i, none⟩ (.int .i64 (xs.length : Int)) = pw4 at own7s hoth hsz4 hos4 hout4 ⊢
  have own64 := owns_keep (w' := pw4) own63 (fun g hg e => hoth g (fun e2 => hne67 ((own_eq e).trans e2)))
  have hIB4 := hC.stab B dn pw3 pw4 hIB3 (fun x hx => hoth x (fun e => (hsep4 x hx).2.1 (by rw [e]; rfl))) hsz4
  have hgr4 : Grew B0 pw0 B pw4 := hgr3.step hsz4 (fun x hx => hoth x (by omega)) hos4 hout4
  have hp6 := hp5.set (w' := pw4) hsz4
  have hbox4 : pw4.heap[sv]? = some (.cells #[.string ys, .int .i64 yi] tP) := (hoth sv (by omega)).trans h3
  have hg6z : g6 < pw4.heap.size := by omega
  have hg7z : g7 < pw4.heap.size := by omega
  clear own63 own73 hIB3 hgr3 hoth hc7 hfr7 hos4 hout4 hp5 h3 hGW hgs hsz4 hsz3
  have hGW := hp6.fb
  have hgs := hp6.gs
  obtain ⟨hb1, hb2, _, _⟩ := cell_row2 hbox4
  walk_nrm
  refine opsW_nil ?_
  show wpW _ _ _ _ _ _ _ _ _ _ _
  refine wpW_seq (wpW_region ?_)
  simp only [List.size_toArray, List.length_cons, List.length_nil, Nat.reduceAdd, Nat.zero_add, List.range, List.range.loop]
  refine opsW_read calmM hGW hgs rfl rfl rfl (fun κ t d K hK => ?_)
  go_simp
  refine hK _ ?_
  clear hK
  walk_nrm
  refine opsW_read calmM hGW hgs rfl rfl rfl (fun κ t d K hK => ?_)
  go_simp
  refine hK _ ?_
  clear hK
  walk_nrm
  refine opsW_read calmM hGW hgs rfl rfl rfl (fun κ t d K hK => ?_)
  go_simp
  refine hK _ ?_
  clear hK
  walk_nrm
  refine opsW_read calmM hGW hgs rfl rfl rfl (fun κ t d K hK => ?_)
  go_simp
  refine hK _ ?_
  clear hK
  walk_nrm
  refine opsW_read calmM hGW hgs rfl rfl rfl (fun κ t d K hK => ?_)
  go_simp
  refine hK _ ?_
  clear hK
  walk_nrm
  refine opsW_read calmM hGW hgs rfl rfl rfl (fun κ t d K hK => ?_)
  have hx := grW_cell (P := Try.prog) (k := κ) hb1 (t := t) (d := d)
  have hy := grW_cell (P := Try.prog) (k := κ) hb2 (t := t) (d := d)
  go_simp
  refine hK _ ?_
  clear hK hx hy
  walk_nrm
  refine opsW_yield (l := l) (r := r) rfl rfl rfl rfl (fun h => ((hsep4 l (hC.record B dn pw4 hIB4).1).2.2 h)) (hC.record B dn pw4 hIB4).2 (by rw [hC.params]; rfl) (fun base cs hb => ?_)
  walk_nrm
  refine hC.round B dn i (.agg #[.string ys, .int .i64 yi]) _ σ4 pw4 base cs hAll hIB4 (fun y hy => ⟨(hgr4.own y hy).1, (hsep4 y hy).2.2⟩) hGW hgs q6 (fun σ5 B' pw5 hI5 g5 => hb _ _ _ ?_) (fun σ5 B' pw5 hJ5 g5 => hb _ _ _ ?_)
  · walk_nrm
    have hgr' := hgr4.trans g5.gr
    have hB6 : ¬ B g6 := fun h => (hsep4 g6 h).1 rfl
    have hB7 : ¬ B g7 := fun h => (hsep4 g7 h).2.1 rfl
    have own65 := owns_keep (w' := pw5) own64 (fun g hg e => g5.gr.low g hg (by rw [← own_eq e]; exact hB6))
    have own75 : OwnI pw5 s1 _ _ := owns_keep (w' := pw5) own7s (fun g hg e => g5.gr.low g hg (by rw [← own_eq e]; exact hB7))
    obtain ⟨hp7, hrem5⟩ := hp6.gc hgr4.size g5
    rw [← hrem5] at hAll own75
    have hkl : k < All.length := by
      have h2 := congrArg List.length hAll
      rw [List.length_append, List.length_cons] at h2
      omega
    have hsep5 : ∀ y, B' y → some y ≠ (Value.slice (some ⟨g6, 0, none⟩) N cap6).ownBlock ∧ some y ≠ (Value.slice (some ⟨g7, 0, none⟩) N c7c).ownBlock ∧ ¬ σ5.F y := fun y hy => by
      refine ⟨?_, ?_, g5.nF y hy⟩
      · rcases (g5.gr.own y hy).2 with h | h
        · exact (hsep4 y h).1
        · intro e
          have h6 : y = g6 := by simpa [Value.ownBlock] using e
          omega
      · rcases (g5.gr.own y hy).2 with h | h
        · exact (hsep4 y h).2.1
        · intro e
          have h6 : y = g7 := by simpa [Value.ownBlock] using e
          omega
    clear hGW hgs hgr4 hIB4 own64 own7s hp6 g5 hsep4
    have hGW := hp7.fb
    have hgs := hp7.gs
    have hwk : IntKind.i64.wrap ((k : Int) + 1) = ((k + 1 : Nat) : Int) := by rw [IntKind.wrap_i64]; omega
    refine opsW_read calmM hGW hgs rfl rfl rfl (fun κ t d K hK => ?_)
    go_simp
    refine hK _ ?_
    clear hK
    walk_nrm
    refine opsW_read calmM hGW hgs rfl rfl rfl (fun κ t d K hK => ?_)
    go_simp
    refine hK _ ?_
    clear hK
    walk_nrm
    refine opsW_nil ?_
    show wpW _ _ _ _ _ _ _ _ _ _ _
    refine wpW_cond (t := false) (by first | rfl | (simp [Act.eval]; omega)) ?_
    simp only [Bool.false_eq_true, ↓reduceIte]
    refine wpW_skip ?_
    show wpW _ _ _ _ _ _ _ _ _ _ _
    refine wpW_region ?_
    simp only [List.size_toArray, List.length_cons, List.length_nil, Nat.reduceAdd, Nat.zero_add, List.range, List.range.loop]
    refine opsW_read calmM hGW hgs rfl rfl rfl (fun κ t d K hK => ?_)
    go_simp
    refine hK _ ?_
    clear hK
    walk_nrm
    refine opsW_read calmM hGW hgs rfl rfl rfl (fun κ t d K hK => ?_)
    go_simp
    refine hK _ ?_
    clear hK
    walk_nrm
    refine opsW_read calmM hGW hgs rfl rfl rfl (fun κ t d K hK => ?_)
    go_simp
    refine hK _ ?_
    clear hK
    walk_nrm
    refine opsW_nil ?_
    refine ⟨⟨_, dn ++ [(i, .agg #[.string ys, .int .i64 yi])], B', rfl, by simp, rfl, rfl, rfl, rfl, rfl, hp7, own65, own75, by simp [hdk], ?_, hI5, hgr', hsep5⟩, hkl⟩
    rw [hAll, List.append_assoc]
    rfl
  · walk_nrm
    have hgr' := hgr4.trans g5.gr
    obtain ⟨hp7, hrem5⟩ := hp6.gc hgr4.size g5
    clear hGW hgs
    have hGW := hp7.fb
    have hgs := hp7.gs
    refine opsW_read calmM hGW hgs rfl rfl rfl (fun κ t d K hK => ?_)
    go_simp
    refine hK _ ?_
    clear hK
    walk_nrm
    refine opsW_read calmM hGW hgs rfl rfl rfl (fun κ t d K hK => ?_)
    go_simp
    refine hK _ ?_
    clear hK
    walk_nrm
    refine opsW_nil ?_
    show wpW _ _ _ _ _ _ _ _ _ _ _
    refine wpW_cond (t := true) (by first | rfl | (simp [Act.eval]; omega)) ?_
    simp only [↓reduceIte]
    refine wpW_ret ?_
    refine (hret' _ _ _).out ⟨rfl, dn ++ [(i, .agg #[.string ys, .int .i64 yi])], B', hp7, .inr ⟨hJ5, things (remsOf σ4.rem σ1.first N) picks (k + 1), ?_⟩, hgr', g5.nF⟩
    rw [hAll, List.append_assoc]
    rfl
end
end Go.Proofs.Ytmllcfkgkkbkpaa.Pr
