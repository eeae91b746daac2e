/-
  Stream's CLOSURE: its second loop hands the things out.
-/
import Derived.Test.YtmllcfkgkkbkpaaPk8
namespace Go.Proofs.Ytmllcfkgkkbkpaa
open Go Go.Conc Go.RowKit Go.Conc.Lib Go.ConcR.Gen
open Go.ConcN (upd upd_ne upd_same WgLive)
open Go.ConcR (KK wgBlock WgAt stA smA rd wr mk DC0)
noncomputable def loopT2 : Code := match restT with
  | .seq _ (.block _ (.loop c)) => c
  | _ => .skip
theorem calmTurn : SM 27 = true := by kernel_rfl
theorem nmTurn : (Try.f27.name == "runtime.NumGoroutine") = false := by kernel_rfl
/-- At the head of the second loop, k things have come. -/
def Inv2 (B0 : Nat → Prop) (pw0 : World) (σ1 : Ph) (s1 l bp : Nat) (picks : List Int) (N : Nat) (c6 c7 : Value) (All : List (Nat × Value)) (I : (Nat → Prop) → List (Nat × Value) → World → Prop) (k : Nat) (a : Act) (σ : Ph) (w : World) : Prop :=
  ∃ (T : Array Value) (ρ : Nat → List Value) (d : List (Nat × Value)) (B : Nat → Prop), a = ⟨T, [dCloseA #[58] σ1.quit, dcall 23 #[.pointer (some ⟨σ1.Wg, 0, none⟩)]]⟩ ∧ T.size = 75 ∧
    T[0]? = some (.func (.yield l) #[] #[]) ∧ T[2]? = some (.pointer (some ⟨bp, 0, none⟩)) ∧ T[6]? = some c6 ∧ T[7]? = some c7 ∧ T[10]? = some (.int .i64 k) ∧
    σ = { σ1 with rem := ρ } ∧ w.ownsRow s1 tC 1 c6 N ((List.range N).map fun i => .chan (some (σ1.ch (σ1.first + i)))) ∧ OwnI w s1 c7 (lens (remsOf ρ σ1.first N)) ∧
    d.length = k ∧ All = d ++ things (remsOf ρ σ1.first N) picks k ∧ I B d w ∧ Grew B0 pw0 B w ∧ (∀ x, B x → some x ≠ c6.ownBlock ∧ some x ≠ c7.ownBlock ∧ ¬ σ1.F x) ∧ (∀ x, σ1.F x → Try.prog.globals.size ≤ x ∧ x < w.heap.size)
/-- Behind its return, the deferred calls before it. -/
def Out2 (B0 : Nat → Prop) (pw0 : World) (σ1 : Ph) (All : List (Nat × Value)) (I J : (Nat → Prop) → List (Nat × Value) → World → Prop) (a : Act) (σ : Ph) (w : World) : Prop :=
  a.defers = [dCloseA #[58] σ1.quit, dcall 23 #[.pointer (some ⟨σ1.Wg, 0, none⟩)]] ∧ ∃ (ρ : Nat → List Value) (d : List (Nat × Value)) (B : Nat → Prop), σ = { σ1 with rem := ρ } ∧ ((I B d w ∧ d = All) ∨ (J B d w ∧ ∃ rest, All = d ++ rest)) ∧ Grew B0 pw0 B w ∧ (∀ x, B x → ¬ σ1.F x) ∧ (∀ x, σ1.F x → Try.prog.globals.size ≤ x ∧ x < w.heap.size)
section
variable {Post : Value → World → Prop} {σ σ1 : Ph} {pw pw0 : World} {Q : Exit → Act → Ph → World → Prop} {fn : Frame → Prop} {l bp N k s1 pn pc : Nat} {pa : Option Addr} {picks : List Int} {c6 c7 : Value} {All : List (Nat × Value)} {B0 : Nat → Prop} {r : Loop} {I J : (Nat → Prop) → List (Nat × Value) → World → Prop} {a : Act}
set_option maxRecDepth 100000 in
set_option maxHeartbeats 8000000 in
/-- A ROUND OF THE SECOND LOOP. -/
theorem strRound2 (hC : Caller Post l r All I J) (hN : N < 1000000) (htot : All.length < 4000000000000000000) (hs1 : pw0.heap.size ≤ s1) (hbp : pw0.cell? ⟨bp, 0, none⟩ = some (.slice pa pn pc)) (hpicks : InI pw0 pa picks) (hpn : picks.length = pn) (hbB : ¬ B0 bp) (hpB : ∀ ad, pa = some ad → 0 < pn → ¬ B0 ad.block)
    (htag : σ1.tag = .opn false) (hcl : σ1.closed = false) (hn1 : σ1.n = N) (hI : Inv2 B0 pw0 σ1 s1 l bp picks N c6 c7 All I k a σ pw)
    (hret : ∀ a' σ' pw', Out2 B0 pw0 σ1 All I J a' σ' pw' → Q .ret a' σ' pw') :
    wpM Try.prog wtG zI zS Post fn loopT2 (thenM (fun a' σ' pw' => Inv2 B0 pw0 σ1 s1 l bp picks N c6 c7 All I (k + 1) a' σ' pw' ∧ k < All.length) Q) a σ pw := by
  obtain ⟨T, ρ, dn, B, rfl, hT, t0, t2, t6, t7, t10, rfl, own6, own7, hdk, hAll, hIB, hgr, hsep, hfb⟩ := hI
  obtain ⟨v0, v1, v2, v3, v4, v5, v6, v7, v8, v9, v10, v11, v12, v13, v14, v15, v16, v17, v18, v19, v20, v21, v22, v23, v24, v25, v26, v27, v28, v29, v30, v31, v32, v33, v34, v35, v36, v37, v38, v39, v40, v41, v42, v43, v44, v45, v46, v47, v48, v49, v50, v51, v52, v53, v54, v55, v56, v57, v58, v59, v60, v61, v62, v63, v64, v65, v66, v67, v68, v69, v70, v71, v72, v73, v74, rfl⟩ := array75 T hT
  simp only [List.getElem?_toArray, List.getElem?_cons_zero, List.getElem?_cons_succ, Option.some.injEq] at t0 t2 t6 t7 t10
  subst t0 t2 t6 t7 t10
  have hret' : ∀ a' σ' pw', RowKit.Hid (Out2 B0 pw0 σ1 All I J a' σ' pw' → Q .ret a' σ' pw') := fun a' σ' pw' => Lib.hid (hret a' σ' pw')
  clear hret
  have hG : ∀ b, ({ σ1 with rem := ρ } : Ph).F b → Try.prog.globals.size ≤ b := fun b hb => (hfb b hb).1
  have hbpl : bp < pw0.heap.size := World.block_lt_of_cell? pw0 _ hbp
  have HBP : RowKit.Hid (pw.cell? ⟨bp, 0, none⟩ = some (.slice pa pn pc)) := Lib.hid ((World.cell?_of_block (hgr.low _ hbpl hbB)).trans hbp)
  have hpick : InI pw pa picks := InV.keep hpicks fun ad ha h0 => hgr.low _ (hpicks.low ad ha h0) (hpB ad ha (by rw [iv_length] at h0; omega))
  have HL := Lib.hid (things_len (remsOf ρ σ1.first N) picks k)
  simp only [loopT2, restT, bodyT, Try.f22, Option.getD_some]
  refine wpM_seq (wpM_block (wpM_seq (wpM_region ?_)))
  simp only [List.size_toArray, List.length_cons, List.length_nil, Nat.zero_add, List.range, List.range.loop]
  refine opsM_k calmM hG rfl rfl rfl (fun t d K hK => ?_)
  go_simp
  refine hK _ _ (opsM_re ?_)
  clear hK
  walk_nrm
  refine opsM_nil ?_
  show wpM _ _ _ _ _ _ _ _ _ _ _
  refine wpM_seq (wpM_mono (Q1 := fun e a' σ' pw' => e = .normal ∧ σ' = { σ1 with rem := ρ } ∧ pw = pw' ∧ ∃ x39 x40 x41 x42 x43 x44 x45 x46 : Value, a' = ⟨#[(.func (.yield l) #[] #[]), v1, .pointer (some ⟨bp, 0, none⟩), v3, v4, v5, v6, v7, v8, v9, .int .i64 k, .int .i64 (picks.getD k 0), v12, v13, v14, v15, v16, v17, v18, v19, v20, v21, v22, v23, v24, v25, v26, v27, v28, v29, v30, v31, v32, v33, v34, v35, v36, v37, v38, x39, x40, x41, x42, x43, x44, x45, x46, v47, v48, v49, v50, v51, v52, v53, v54, v55, v56, v57, v58, v59, v60, v61, v62, v63, v64, v65, v66, v67, v68, v69, v70, v71, v72, v73, v74], [dCloseA #[58] σ1.quit, dcall 23 #[.pointer (some ⟨σ1.Wg, 0, none⟩)]]⟩) ?_ ?_)
  · refine wpM_seq (wpM_region ?_)
    simp only [List.size_toArray, List.length_cons, List.length_nil, Nat.reduceAdd, Nat.zero_add, List.range, List.range.loop]
    refine opsM_k calmM hG rfl rfl rfl (fun t d K hK => ?_)
    go_simp
    refine hK _ _ (opsM_re ?_)
    clear hK
    walk_nrm
    refine opsM_k calmM hG rfl rfl rfl (fun t d K hK => ?_)
    have hx : (pw.re t d).cell? ⟨bp, 0, none⟩ = some (.slice pa pn pc) := HBP.out
    go_simp
    refine hK _ _ (opsM_re ?_)
    clear hK hx
    walk_nrm
    refine opsM_k calmM hG rfl rfl rfl (fun t d K hK => ?_)
    go_simp
    refine hK _ _ (opsM_re ?_)
    clear hK
    walk_nrm
    by_cases hk : k < pn
    · have hlt : decide ((k : Int) < (pn : Int)) = true := by simp; exact hk
      have hk' : (k : Int) < (pn : Int) := by omega
      obtain ⟨pb, po, rfl, hc⟩ := hpick.at (k := k) (by omega)
      have hg : picks.getD k 0 = picks[k] := by rw [List.getD_eq_getElem?_getD, List.getElem?_eq_getElem (by omega)]; rfl
      rw [hg]
      refine opsM_k calmM hG rfl rfl rfl (fun t d K hK => ?_)
      go_simp
      refine hK _ _ (opsM_re ?_)
      clear hK
      walk_nrm
      refine opsM_nil ?_
      show wpM _ _ _ _ _ _ _ _ _ _ _
      refine wpM_cond (t := true) (by first | rfl | (simp [Act.eval]; omega)) ?_
      simp only [↓reduceIte]
      refine wpM_region ?_
      simp only [List.size_toArray, List.length_cons, List.length_nil, Nat.reduceAdd, Nat.zero_add, List.range, List.range.loop]
      refine opsM_k calmM hG rfl rfl rfl (fun t d K hK => ?_)
      have hx : (pw.re t d).cell? ⟨bp, 0, none⟩ = some (.slice (some ⟨pb, po, none⟩) pn pc) := HBP.out
      go_simp
      refine hK _ _ (opsM_re ?_)
      clear hK hx
      walk_nrm
      refine opsM_k calmM hG rfl rfl rfl (fun t d K hK => ?_)
      go_simp
      refine hK _ _ (opsM_re ?_)
      clear hK
      walk_nrm
      refine opsM_k calmM hG rfl rfl rfl (fun t d K hK => ?_)
      go_simp
      refine hK _ _ (opsM_re ?_)
      clear hK
      walk_nrm
      refine opsM_k calmM hG rfl rfl rfl (fun t d K hK => ?_)
      have hx : (pw.re t d).cell? ⟨pb, po + k, none⟩ = some (.int .i64 picks[k]) := hc
      go_simp
      refine hK _ _ (opsM_re ?_)
      clear hK hx
      walk_nrm
      refine opsM_k calmM hG rfl rfl rfl (fun t d K hK => ?_)
      go_simp
      refine hK _ _ (opsM_re ?_)
      clear hK
      walk_nrm
      refine opsM_nil ?_
      exact ⟨rfl, rfl, rfl, _, _, _, _, _, _, _, _, rfl⟩
    · have hlt : decide ((k : Int) < (pn : Int)) = false := by simp; omega
      have hg : picks.getD k 0 = 0 := by rw [List.getD_eq_getElem?_getD, List.getElem?_eq_none (by omega)]; rfl
      rw [hg]
      refine opsM_k calmM hG rfl rfl rfl (fun t d K hK => ?_)
      go_simp
      refine hK _ _ (opsM_re ?_)
      clear hK
      walk_nrm
      refine opsM_nil ?_
      show wpM _ _ _ _ _ _ _ _ _ _ _
      refine wpM_cond (t := false) (by first | rfl | (simp [Act.eval]; omega)) ?_
      simp only [Bool.false_eq_true, ↓reduceIte]
      refine wpM_skip ?_
      exact ⟨rfl, rfl, rfl, _, _, _, _, _, _, _, _, rfl⟩
  rintro _ _ _ _ ⟨rfl, rfl, rfl, x39, x40, x41, x42, x43, x44, x45, x46, rfl⟩
  show wpM _ _ _ _ _ _ _ _ _ _ _
  refine wpM_seq (wpM_region ?_)
  simp only [List.size_toArray, List.length_cons, List.length_nil, Nat.reduceAdd, Nat.zero_add, List.range, List.range.loop]
  refine opsM_k calmM hG rfl rfl rfl (fun t d K hK => ?_)
  go_simp
  refine hK _ _ (opsM_re ?_)
  clear hK
  walk_nrm
  refine opsM_k calmM hG rfl rfl rfl (fun t d K hK => ?_)
  go_simp
  refine hK _ _ (opsM_re ?_)
  clear hK
  walk_nrm
  refine opsM_enter (f := 27) rfl rfl (by intro c e; cases e) (fun w => run_enterOp rfl Try.func27 nmTurn rfl w) (fun base cs hb => ?_)
  walk_nrm
  obtain ⟨p7, c7c, rfl, _, _, in7, _⟩ := own7.shape (n := N) (by rw [lens_length, remsOf_len])
  refine mv_calls calmM hG calmTurn (R := fun t d v w' => v = .int .i64 (turnT (lens (remsOf ρ σ1.first N)) (picks.getD k 0)) ∧ Below (pw.re t d).heap.size (pw.re t d) w') (fun t d => (turn_any (pw.re t d) (in7.re t d) (by rw [lens_length, remsOf_len]) hN).mono fun e w' h => ⟨_, h.1, rfl, h.2⟩) (fun v pw1 hv => ?_)
  obtain ⟨t, d, t', d', rfl, hb1⟩ := hv
  obtain ⟨hsz1, hlow1, hos1, hout1⟩ := below_re hb1
  refine hb _ _ _ ?_
  clear hb hb1
  have hIB1 := hC.stab B dn pw pw1 hIB (fun x hx => hlow1 x (hgr.own x hx).1) hsz1
  have hgr1 : Grew B0 pw0 B pw1 := hgr.step hsz1 (fun x hx => hlow1 x (by have := hgr.size; show x < pw.heap.size; omega)) hos1 hout1
  have hfb1 : ∀ x, σ1.F x → Try.prog.globals.size ≤ x ∧ x < pw1.heap.size := fun x hx => ⟨(hfb x hx).1, by have := (hfb x hx).2; omega⟩
  have own61 := owns_keep (w' := pw1) own6 (fun g hg _ => hlow1 g hg)
  have own71 : OwnI pw1 s1 _ _ := owns_keep (w' := pw1) own7 (fun g hg _ => hlow1 g hg)
  replace hG : ∀ b, ({ σ1 with rem := ρ } : Ph).F b → Try.prog.globals.size ≤ b := fun b hb => (hfb b hb).1
  clear hpick HBP hIB hgr hfb own6 own7 in7 hlow1 hos1 hout1 hsz1
  walk_nrm
  rcases turn_left (rems := remsOf ρ σ1.first N) (pick := picks.getD k 0) with ⟨hT1, _⟩ | ⟨i, x, xs, hT1, hi, hr⟩
  · have hE := things_end hT1
    rw [hT1]
    refine opsM_k calmM hG rfl rfl rfl (fun t d K hK => ?_)
    go_simp
    refine hK _ _ (opsM_re ?_)
    clear hK
    walk_nrm
    refine opsM_nil ?_
    show wpM _ _ _ _ _ _ _ _ _ _ _
    refine wpM_seq (wpM_seq (wpM_region ?_))
    simp only [List.size_toArray, List.length_cons, List.length_nil, Nat.reduceAdd, Nat.zero_add, List.range, List.range.loop]
    refine opsM_k calmM hG rfl rfl rfl (fun t d K hK => ?_)
    go_simp
    refine hK _ _ (opsM_re ?_)
    clear hK
    walk_nrm
    refine opsM_k calmM hG rfl rfl rfl (fun t d K hK => ?_)
    go_simp
    refine hK _ _ (opsM_re ?_)
    clear hK
    walk_nrm
    refine opsM_nil ?_
    show wpM _ _ _ _ _ _ _ _ _ _ _
    refine wpM_cond (t := true) (by first | rfl | (simp [Act.eval]; omega)) ?_
    simp only [↓reduceIte]
    refine wpM_ret ?_
    refine (hret' _ _ _).out ⟨rfl, ρ, dn, B, rfl, .inl ⟨hIB1, ?_⟩, hgr1, fun x hx => (hsep x hx).2.2, hfb1⟩
    rw [hAll, hE, List.append_nil]
  rw [remsOf_len] at hi
  have hi' : ((i : Int) < 0) = False := by simp
  have hS := things_step hT1 hr
  rw [hT1]
  refine opsM_k calmM hG rfl rfl rfl (fun t d K hK => ?_)
  go_simp
  refine hK _ _ (opsM_re ?_)
  clear hK
  walk_nrm
  refine opsM_nil ?_
  show wpM _ _ _ _ _ _ _ _ _ _ _
  refine wpM_seq (wpM_seq (wpM_region ?_))
  simp only [List.size_toArray, List.length_cons, List.length_nil, Nat.reduceAdd, Nat.zero_add, List.range, List.range.loop]
  refine opsM_k calmM hG rfl rfl rfl (fun t d K hK => ?_)
  go_simp
  refine hK _ _ (opsM_re ?_)
  clear hK
  walk_nrm
  refine opsM_k calmM hG rfl rfl rfl (fun t d K hK => ?_)
  go_simp
  refine hK _ _ (opsM_re ?_)
  clear hK
  walk_nrm
  refine opsM_nil ?_
  show wpM _ _ _ _ _ _ _ _ _ _ _
  refine wpM_cond (t := false) (by first | rfl | (simp [Act.eval]; omega)) ?_
  simp only [Bool.false_eq_true, ↓reduceIte]
  refine wpM_skip ?_
  show wpM _ _ _ _ _ _ _ _ _ _ _
  refine wpM_seq (wpM_region ?_)
  simp only [List.size_toArray, List.length_cons, List.length_nil, Nat.reduceAdd, Nat.zero_add, List.range, List.range.loop]
  have hN0 : 0 < N := by omega
  obtain ⟨g6, cap6, rfl, hg6, hg6l⟩ := owns_block own61 hN0
  have hc6 : pw1.cell? ⟨g6, i, none⟩ = some (.chan (some (σ1.ch (σ1.first + i)))) := by
    rw [World.ownsRow.cellAt own61 i (by omega), List.getElem?_map, List.getElem?_range hi]
    rfl
  have hiN : (i : Int) < (N : Int) := by omega
  refine opsM_k calmM hG rfl rfl rfl (fun t d K hK => ?_)
  go_simp
  refine hK _ _ (opsM_re ?_)
  clear hK
  walk_nrm
  refine opsM_k calmM hG rfl rfl rfl (fun t d K hK => ?_)
  go_simp
  refine hK _ _ (opsM_re ?_)
  clear hK
  walk_nrm
  refine opsM_k calmM hG rfl rfl rfl (fun t d K hK => ?_)
  go_simp
  refine hK _ _ (opsM_re ?_)
  clear hK
  walk_nrm
  refine opsM_k calmM hG rfl rfl rfl (fun t d K hK => ?_)
  have hx : (pw1.re t d).cell? ⟨g6, i, none⟩ = some (.chan (some (σ1.ch (σ1.first + i)))) := hc6
  go_simp
  refine hK _ _ (opsM_re ?_)
  clear hK hx
  walk_nrm
  rw [remsOf_get hi] at hr
  have hr' : ρ (σ1.first + i) = x :: xs := Option.some.inj hr
  refine opsM_recv (zz := .int .i64 0) (j := σ1.first + i) (v := x) (vs := xs) rfl rfl (by intro c e; cases e) (fun w => ?_) hcl hr' (by show σ1.first ≤ _; omega) (by show _ < σ1.first + σ1.n; omega) ?_
  · constructor <;> simp [execOp, Act.eval, rcase, go_sem]
  walk_nrm
  replace hG : ∀ b, (took { σ1 with rem := ρ } (σ1.first + i) xs).F b → Try.prog.globals.size ≤ b := fun b hb => (hfb1 b hb).1
  refine opsM_k calmM hG rfl rfl rfl (fun t d K hK => ?_)
  go_simp
  refine hK _ _ (opsM_re ?_)
  clear hK
  walk_nrm
  refine opsM_k calmM hG rfl rfl rfl (fun t d K hK => ?_)
  go_simp
  refine hK _ _ (opsM_re ?_)
  clear hK
  walk_nrm
  refine opsM_k calmM hG rfl rfl rfl (fun t d K hK => ?_)
  go_simp
  refine hK _ _ (opsM_re ?_)
  clear hK
  walk_nrm
  refine opsM_k calmM hG rfl rfl rfl (fun t d K hK => ?_)
  go_simp
  refine hK _ _ (opsM_re ?_)
  clear hK
  walk_nrm
  refine opsM_k calmM hG rfl rfl rfl (fun t d K hK => ?_)
  go_simp
  refine hK _ _ (opsM_re ?_)
  clear hK
  walk_nrm
  refine opsM_nil ?_
  show wpM _ _ _ _ _ _ _ _ _ _ _
  refine wpM_seq (wpM_region ?_)
  simp only [List.size_toArray, List.length_cons, List.length_nil, Nat.reduceAdd, Nat.zero_add, List.range, List.range.loop]
  have hrem : remsOf (took { σ1 with rem := ρ } (σ1.first + i) xs).rem σ1.first N = (remsOf ρ σ1.first N).set i xs := remsOf_set
  have hlen : (lens (remsOf ρ σ1.first N))[i]? = some ((xs.length : Int) + 1) := by
    unfold lens
    rw [List.getElem?_map, remsOf_get hi, hr']
    simp
  have hxl : xs.length + 1 ≤ All.length := by
    have h1 := total_get (remsOf_get (ρ := ρ) (first := σ1.first) hi)
    rw [hr'] at h1
    have h2 := HL.out
    rw [hAll, List.length_append, h2]
    simp only [List.length_cons] at h1
    omega
  obtain ⟨g7, cap7, e7, hg7, hg7l⟩ := owns_block own71 (by rw [lens_length, remsOf_len]; exact hN0)
  rw [lens_length, remsOf_len] at e7
  simp only [Value.slice.injEq, true_and] at e7
  obtain ⟨rfl, rfl⟩ := e7
  have hc7 : pw1.cell? ⟨g7, i, none⟩ = some (.int .i64 ((xs.length : Int) + 1)) := by
    have h1 := own71
    unfold OwnI at h1
    rw [lens_length, remsOf_len] at h1
    rw [World.ownsRow.cellAt h1 i (by omega)]
    unfold iv
    rw [List.getElem?_map, hlen]
    rfl
  obtain ⟨own7s, hoth, hfr7⟩ := OwnI.stored (n := N) (by rw [lens_length, remsOf_len]) own71 i (xs.length : Int)
  rw [← lens_set, ← hrem] at own7s
  have hw1 : IntKind.i64.wrap ((xs.length : Int) + 1 - 1) = (xs.length : Int) := by rw [IntKind.wrap_i64]; omega
  have hw2 : IntKind.i64.wrap (xs.length : Int) = (xs.length : Int) := by rw [IntKind.wrap_i64]; omega
  refine opsM_k calmM hG rfl rfl rfl (fun t d K hK => ?_)
  go_simp
  refine hK _ _ (opsM_re ?_)
  clear hK
  walk_nrm
  refine opsM_k calmM hG rfl rfl rfl (fun t d K hK => ?_)
  go_simp
  refine hK _ _ (opsM_re ?_)
  clear hK
  walk_nrm
  refine opsM_k calmM hG rfl rfl rfl (fun t d K hK => ?_)
  go_simp
  refine hK _ _ (opsM_re ?_)
  clear hK
  walk_nrm
  refine opsM_k calmM hG rfl rfl rfl (fun t d K hK => ?_)
  have hx : (pw1.re t d).cell? ⟨g7, i, none⟩ = some (.int .i64 ((xs.length : Int) + 1)) := hc7
  go_simp
  refine hK _ _ (opsM_re ?_)
  clear hK hx
  walk_nrm
  refine opsM_k calmM hG rfl rfl rfl (fun t d K hK => ?_)
  go_simp
  refine hK _ _ (opsM_re ?_)
  clear hK
  walk_nrm
  refine opsM_k calmM hG rfl rfl rfl (fun t d K hK => ?_)
  go_simp
  refine hK _ _ (opsM_re ?_)
  clear hK
  walk_nrm
  refine opsM_k calmM hG rfl rfl rfl (fun t d K hK => ?_)
  have hx : (pw1.re t d).cell? ⟨g7, i, none⟩ = some (.int .i64 ((xs.length : Int) + 1)) := hc7
  have hx2 : (pw1.re t d).frozen? ⟨g7, i, none⟩ = false := hfr7
  go_simp
  rw [re_setCell]
  refine hK _ _ (opsM_re ?_)
  clear hK hx hx2
  have hne67 : g6 ≠ g7 := fun e => by
    have := owns_apart own61 own71 (by decide) g7 rfl
    rw [e] at this
    exact this rfl
  have hsz2 : pw1.heap.size ≤ (pw1.setCell ⟨g7, i, none⟩ (.int .i64 (xs.length : Int))).heap.size := by simp
  have hos2 : (pw1.setCell ⟨g7, i, none⟩ (.int .i64 (xs.length : Int))).os = pw1.os := rfl
  have hout2 : (pw1.setCell ⟨g7, i, none⟩ (.int .i64 (xs.length : Int))).output = pw1.output := rfl
  generalize pw1.setCell ⟨g7, i, none⟩ (.int .i64 (xs.length : Int)) = pw2 at own7s hoth hsz2 hos2 hout2 ⊢
  have own62 := owns_keep (w' := pw2) own61 (fun g hg e => hoth g (fun e2 => hne67 (by
    have h6 : g6 = g := by simpa [Value.ownBlock] using e
    rw [h6, e2])))
  have hIB2 := hC.stab B dn pw1 pw2 hIB1 (fun x hx => hoth x (fun e => (hsep x hx).2.1 (by rw [e]; rfl))) hsz2
  have hgr2 : Grew B0 pw0 B pw2 := hgr1.step hsz2 (fun x hx => hoth x (by omega)) hos2 hout2
  have hfb2 : ∀ x, σ1.F x → Try.prog.globals.size ≤ x ∧ x < pw2.heap.size := fun x hx => ⟨(hfb1 x hx).1, by have := (hfb1 x hx).2; omega⟩
  clear own61 own71 hIB1 hgr1 hfb1 hoth hc7 hc6 hfr7 hos2 hout2
  walk_nrm
  refine opsM_nil ?_
  show wpM _ _ _ _ _ _ _ _ _ _ _
  refine wpM_seq (wpM_region ?_)
  simp only [List.size_toArray, List.length_cons, List.length_nil, Nat.reduceAdd, Nat.zero_add, List.range, List.range.loop]
  refine opsM_k calmM hG rfl rfl rfl (fun t d K hK => ?_)
  go_simp
  refine hK _ _ (opsM_re ?_)
  clear hK
  walk_nrm
  refine opsM_k calmM hG rfl rfl rfl (fun t d K hK => ?_)
  go_simp
  refine hK _ _ (opsM_re ?_)
  clear hK
  walk_nrm
  refine opsM_k calmM hG rfl rfl rfl (fun t d K hK => ?_)
  go_simp
  refine hK _ _ (opsM_re ?_)
  clear hK
  walk_nrm
  refine opsM_k calmM hG rfl rfl rfl (fun t d K hK => ?_)
  go_simp
  refine hK _ _ (opsM_re ?_)
  clear hK
  walk_nrm
  refine opsM_k calmM hG rfl rfl rfl (fun t d K hK => ?_)
  go_simp
  refine hK _ _ (opsM_re ?_)
  clear hK
  walk_nrm
  refine opsM_k calmM hG rfl rfl rfl (fun t d K hK => ?_)
  go_simp
  refine hK _ _ (opsM_re ?_)
  clear hK
  walk_nrm
  refine opsM_yield (l := l) (r := r) rfl rfl rfl rfl (fun h => ((hsep l (hC.record B dn pw2 hIB2).1).2.2 h)) (hC.record B dn pw2 hIB2).2 (by rw [hC.params]; rfl) (fun base cs hb => ?_)
  walk_nrm
  refine hC.round B dn i x (things (remsOf (took { σ1 with rem := ρ } (σ1.first + i) xs).rem σ1.first N) picks (k + 1)) _ pw2 base cs (by rw [hrem, hAll, hS]) hIB2 (fun y hy => ⟨(hgr2.own y hy).1, (hsep y hy).2.2⟩) hfb2 htag (fun B' pw3 hI3 hgr3 => hb _ _ _ ?_) (fun B' pw3 hJ3 hgr3 => hb _ _ _ ?_)
  · walk_nrm
    have hgr' := hgr2.trans hgr3
    have hB6 : ¬ B g6 := fun h => (hsep g6 h).1 rfl
    have hB7 : ¬ B g7 := fun h => (hsep g7 h).2.1 rfl
    have own63 := owns_keep (w' := pw3) own62 (fun g hg e => hgr3.low g hg (by have h6 : g6 = g := by simpa [Value.ownBlock] using e
                                                                               rw [← h6]; exact hB6))
    have own73 : OwnI pw3 s1 _ _ := owns_keep (w' := pw3) own7s (fun g hg e => hgr3.low g hg (by have h6 : g7 = g := by simpa [Value.ownBlock] using e
                                                                                                 rw [← h6]; exact hB7))
    have hg62 : g6 < pw2.heap.size := by omega
    have hg72 : g7 < pw2.heap.size := by omega
    have hkl : k < All.length := by
      have h2 := congrArg List.length hAll
      rw [List.length_append, hS, List.length_cons] at h2
      omega
    have hwk : IntKind.i64.wrap ((k : Int) + 1) = ((k + 1 : Nat) : Int) := by rw [IntKind.wrap_i64]; omega
    refine opsM_k calmM hG rfl rfl rfl (fun t d K hK => ?_)
    go_simp
    refine hK _ _ (opsM_re ?_)
    clear hK
    walk_nrm
    refine opsM_k calmM hG rfl rfl rfl (fun t d K hK => ?_)
    go_simp
    refine hK _ _ (opsM_re ?_)
    clear hK
    walk_nrm
    refine opsM_nil ?_
    show wpM _ _ _ _ _ _ _ _ _ _ _
    refine wpM_cond (t := false) (by first | rfl | (simp [Act.eval]; omega)) ?_
    simp only [Bool.false_eq_true, ↓reduceIte]
    refine wpM_skip ?_
    show wpM _ _ _ _ _ _ _ _ _ _ _
    refine wpM_region ?_
    simp only [List.size_toArray, List.length_cons, List.length_nil, Nat.reduceAdd, Nat.zero_add, List.range, List.range.loop]
    refine opsM_k calmM hG rfl rfl rfl (fun t d K hK => ?_)
    go_simp
    refine hK _ _ (opsM_re ?_)
    clear hK
    walk_nrm
    refine opsM_k calmM hG rfl rfl rfl (fun t d K hK => ?_)
    go_simp
    refine hK _ _ (opsM_re ?_)
    clear hK
    walk_nrm
    refine opsM_k calmM hG rfl rfl rfl (fun t d K hK => ?_)
    go_simp
    refine hK _ _ (opsM_re ?_)
    clear hK
    walk_nrm
    refine opsM_nil ?_
    refine ⟨⟨_, (took { σ1 with rem := ρ } (σ1.first + i) xs).rem, dn ++ [(i, x)], B', rfl, by simp, rfl, rfl, rfl, rfl, rfl, rfl, own63, own73, by simp [hdk], ?_, hI3, hgr', fun y hy => ?_, fun y hy => ?_⟩, hkl⟩
    · rw [hrem, hAll, hS, List.append_assoc]
      rfl
    · rcases (hgr3.own y hy).2 with h | h
      · exact hsep y h
      · refine ⟨fun e => ?_, fun e => ?_, fun e => ?_⟩
        · have h6 : y = g6 := by simpa [Value.ownBlock] using e
          omega
        · have h6 : y = g7 := by simpa [Value.ownBlock] using e
          omega
        · have := (hfb2 y e).2
          omega
    · have := hfb2 y hy
      exact ⟨this.1, by have := hgr3.size; omega⟩
  · walk_nrm
    have hgr' := hgr2.trans hgr3
    refine opsM_k calmM hG rfl rfl rfl (fun t d K hK => ?_)
    go_simp
    refine hK _ _ (opsM_re ?_)
    clear hK
    walk_nrm
    refine opsM_k calmM hG rfl rfl rfl (fun t d K hK => ?_)
    go_simp
    refine hK _ _ (opsM_re ?_)
    clear hK
    walk_nrm
    refine opsM_nil ?_
    show wpM _ _ _ _ _ _ _ _ _ _ _
    refine wpM_cond (t := true) (by first | rfl | (simp [Act.eval]; omega)) ?_
    simp only [↓reduceIte]
    refine wpM_ret ?_
    refine (hret' _ _ _).out ⟨rfl, _, dn ++ [(i, x)], B', rfl, .inr ⟨hJ3, things (remsOf (took { σ1 with rem := ρ } (σ1.first + i) xs).rem σ1.first N) picks (k + 1), ?_⟩, hgr', fun y hy => ?_, fun y hy => ?_⟩
    · rw [hrem, hAll, hS, List.append_assoc]
      rfl
    · rcases (hgr3.own y hy).2 with h | h
      · exact (hsep y h).2.2
      · intro e
        have := (hfb2 y e).2
        omega
    · have := hfb2 y hy
      exact ⟨this.1, by have := hgr3.size; omega⟩
end
end Go.Proofs.Ytmllcfkgkkbkpaa
