/-
  Stream's CLOSURE: a round of its first loop.
-/
import Derived.Test.YtmllcfkgkkbkpaaHvStrP
namespace Go.Proofs.Ytmllcfkgkkbkpaa
open Go Go.Conc Go.RowKit Go.Conc.Lib Go.ConcR.Gen
open Go.ConcN (upd upd_ne upd_same WgLive)
open Go.ConcR (KK wgBlock WgAt stA smA rd wr mk DC0)
section
variable {Post : Value → World → Prop} {σ σ0 : Ph} {pw w0 : World} {Q : Exit → Act → Ph → World → Prop} {fn : Frame → Prop} {l bo bp N cap j : Nat} {ao : Option Addr} {lists : List (List Value)} {a : Act}
theorem owns_apart {w : World} {b b' : Nat} {e e' : TypeId} {s s' n n' : Nat} {v v' : Value} {xs xs' : List Value} (h : w.ownsRow b e s v n xs) (h' : w.ownsRow b' e' s' v' n' xs') (hne : e ≠ e') : ∀ g, v'.ownBlock = some g → some g ≠ v.ownBlock := by
  intro g hg hg'
  rcases h.2 with ⟨rfl, _⟩ | ⟨g1, _, _, rfl, _, h1, _⟩
  · cases hg'
  · rcases h'.2 with ⟨rfl, _⟩ | ⟨g2, _, _, rfl, _, h2, _⟩
    · cases hg
    · obtain rfl : g2 = g := by simpa [Value.ownBlock] using hg
      obtain rfl : g2 = g1 := by simpa [Value.ownBlock] using hg'
      rw [h1] at h2
      cases h2
      exact hne rfl
theorem src_one {w : World} {tx e : TypeId} {x : Value} {e' : TypeId} (hk : Try.prog.underlying tx = some (.slice e')) (h1 : x.oneCell' = true) (t : Nat → Question → Nat) (d : Nat) : Src Try.prog 1 tx (.slice (some ⟨w.heap.size, 0, none⟩) 1 1) 1 [x] ((w.alloc (.cells #[x] e)).re t d) := by
  refine Src.ofSlice _ hk _ _ _ _ rfl (fun j u hj => ?_) (fun u hu => ?_)
  · cases j with
    | zero =>
      have : x = u := by simpa using hj
      subst this
      exact (cell_row1 (w := w.alloc (.cells #[x] e)) alloc_self).1
    | succ j => simp at hj
  · have : u = x := by simpa using hu
    subst this
    exact h1
set_option maxRecDepth 100000 in
set_option maxHeartbeats 4000000 in
/-- A ROUND OF THE FIRST LOOP. -/
theorem strRound (hO : OwnAt σ0 w0 ao N lists) (hSW : ∀ b, σ0.SW b → b < w0.heap.size) (hgs : Try.prog.globals.size ≤ w0.heap.size) (_hFq : σ0.F σ0.quit) (hFw : σ0.F σ0.Wg) (hroom : N ≤ σ0.room) (hj : j ≤ N) (hI : Inv1 σ0 w0 l bo bp ao N cap lists j a σ pw)
    (hx : ∀ a', j = N → Inv1 σ0 w0 l bo bp ao N cap lists N a' σ pw → Q (.exit 0) a' σ pw) :
    wpM Try.prog wtG zI zS Post fn loopT1 (thenM (fun a' σ' pw' => j < N ∧ Inv1 σ0 w0 l bo bp ao N cap lists (j + 1) a' σ' pw') Q) a σ pw := by
  obtain ⟨T, c6, c7, rfl, hT, t0, t1, t2, t4, t5, t6, t7, t17, t18, t19, own6, own7, hp⟩ := hI
  obtain ⟨v0, v1, v2, v3, v4, v5, v6, v7, v8, v9, v10, v11, v12, v13, v14, v15, v16, v17, v18, v19, v20, v21, v22, v23, v24, v25, v26, v27, v28, v29, v30, v31, v32, v33, v34, v35, v36, v37, v38, v39, v40, v41, v42, v43, v44, v45, v46, v47, v48, v49, v50, v51, v52, v53, v54, v55, v56, v57, v58, v59, v60, v61, v62, v63, v64, v65, v66, v67, v68, v69, v70, v71, v72, v73, v74, rfl⟩ := array75 T hT
  simp only [List.getElem?_toArray, List.getElem?_cons_zero, List.getElem?_cons_succ, Option.some.injEq] at t0 t1 t2 t4 t5 t6 t7 t17 t18 t19
  subst t0 t1 t2 t4 t5 t6 t7 t17 t18 t19
  have hG : ∀ b, σ.F b → Try.prog.globals.size ≤ b := fun b hb => (hp.fb b hb).1
  simp only [loopT1, blockT1, bodyT, Try.f22, Option.getD_some]
  refine wpM_seq (wpM_region ?_)
  simp only [List.size_toArray, List.length_cons, List.length_nil, Nat.zero_add, List.range, List.range.loop]
  by_cases hjN : j < N
  · have hlt : decide ((j : Int) < (N : Int)) = true := by simp; exact hjN
    refine opsM_k calmM hG rfl rfl rfl (fun t d K hK => ?_)
    go_simp
    refine hK _ _ (opsM_re ?_)
    clear hK
    walk_nrm
    refine opsM_nil ?_
    show wpM _ _ _ _ _ _ _ _ _ _ _
    refine wpM_seq (wpM_cond (t := true) (by first | rfl | (simp [Act.eval]; omega)) ?_)
    simp only [↓reduceIte]
    refine wpM_skip ?_
    show wpM _ _ _ _ _ _ _ _ _ _ _
    refine wpM_seq (wpM_block (wpM_seq (wpM_region ?_)))
    simp only [List.size_toArray, List.length_cons, List.length_nil, Nat.reduceAdd, Nat.zero_add, List.range, List.range.loop]
    obtain ⟨items, hit⟩ : ∃ items, lists[j]? = some items := ⟨_, List.getElem?_eq_getElem (by rw [hO.len]; exact hjN)⟩
    obtain ⟨ad, a0, n, c0, rfl, hbl, hcell, hitems⟩ := hO.row j items hit
    have hcell' : pw.cell? (ad.add j) = some (.slice a0 n c0) := (World.cell?_of_block (by rw [add_blk]; exact hp.low _ hbl)).trans hcell
    have hjN' : (j : Int) < (N : Int) := by omega
    refine opsM_k calmM hG rfl rfl rfl (fun t d K hK => ?_)
    go_simp
    refine hK _ _ (opsM_re ?_)
    clear hK
    walk_nrm
    refine opsM_k calmM hG rfl rfl rfl (fun t d K hK => ?_)
    have hx : (pw.re t d).cell? (ad.add j) = some (.slice a0 n c0) := hcell'
    go_simp
    refine hK _ _ (opsM_re ?_)
    clear hK hx
    walk_nrm
    refine opsM_k calmM hG rfl rfl rfl (fun t d K hK => ?_)
    go_simp
    refine hK _ _ (opsM_re ?_)
    clear hK
    walk_nrm
    refine opsM_nil ?_
    show wpM _ _ _ _ _ _ _ _ _ _ _
    refine wpM_seq (wpM_region ?_)
    simp only [List.size_toArray, List.length_cons, List.length_nil, Nat.zero_add, List.range, List.range.loop]
    refine opsM_enter (f := 24) rfl rfl (by intro c e; cases e) (fun w => run_enterOp rfl Try.func24 nmAdd rfl w) (fun base cs hb => ?_)
    walk_nrm
    have hadd := strAdd (z := zI) (z' := zS) (Post := Post) (σ := σ) (pw := pw) (c := base) (cs := cs) hp.tag (by rw [hp.wg]; exact hp.f0 _ hFw) (hb _ _ _ ?_)
    · rw [hp.wg] at hadd
      exact hadd
    clear hb
    walk_nrm
    refine opsM_nil ?_
    show wpM _ _ _ _ _ _ _ _ _ _ _
    refine wpM_seq (wpM_region ?_)
    simp only [List.size_toArray, List.length_cons, List.length_nil, Nat.reduceAdd, Nat.zero_add, List.range, List.range.loop]
    replace hG : ∀ b, ({ σ with tag := .opn true } : Ph).F b → Try.prog.globals.size ≤ b := hG
    refine opsM_k calmM hG rfl rfl rfl (fun t d K hK => ?_)
    go_simp
    refine hK _ _ (opsM_re ?_)
    clear hK
    walk_nrm
    refine opsM_k calmM hG rfl rfl rfl (fun t d K hK => ?_)
    go_simp
    refine hK _ _ (opsM_re ?_)
    clear hK
    walk_nrm
    refine opsM_k calmM hG rfl rfl rfl (fun t d K hK => ?_)
    go_simp
    refine hK _ _ (opsM_re ?_)
    clear hK
    walk_nrm
    refine opsM_k calmM hG rfl rfl rfl (fun t d K hK => ?_)
    go_simp
    refine hK _ _ (opsM_re ?_)
    clear hK
    walk_nrm
    refine opsM_enter (f := 25) rfl rfl (by intro c e; cases e) (fun w => run_enterOp rfl Try.func25 nmSrc rfl w) (fun base cs hb => ?_)
    walk_nrm
    have hr1 : σ.room = σ.room - 1 + 1 := by have := hp.room; omega
    have hsz := hp.size
    have hsrc := srcM (Post := Post) (σ := { σ with tag := .opn true }) (pw := pw) (c := base) (cs := cs) (a0 := a0) (n := n) (cap := c0) (room := σ.room - 1) (items := items) hG (by omega) (fun b hb => (hp.fb b hb).2) (fun b hb => by have := hSW b (by rw [← hp.sw]; exact hb); omega) hp.layb rfl hp.closed hp.d0 hr1 (hitems.mono (σ' := { σ with tag := .opn true }) hp.lay hp.sw) (hb _ _ _ ?_)
    · rw [← hp.quit, ← hp.wg]
      exact hsrc
    clear hb
    walk_nrm
    have hp1 := ph1_src (iv := .slice a0 n c0) hp hit (by omega) (by omega)
    have own6' := owns_keep (w' := srcEnd Try.prog pw (.slice a0 n c0) σ.quit σ.Wg) own6 (fun g hg _ => srcEnd_low hg)
    have own7' := owns_keep (w' := srcEnd Try.prog pw (.slice a0 n c0) σ.quit σ.Wg) own7 (fun g hg _ => srcEnd_low hg)
    have hch : ∀ i, (srcPh { σ with tag := .opn true } pw.heap.size (.slice a0 n c0) items (σ.room - 1)).ch (σ0.first + i) = if i = j then pw.heap.size + 3 else σ.ch (σ0.first + i) := fun i => by
      show upd σ.ch (σ.first + σ.n) (pw.heap.size + 3) (σ0.first + i) = _
      rw [hp.first, hp.n]
      by_cases e : i = j
      · subst e; rw [upd_same, if_pos rfl]
      · rw [upd_ne _ _ (by omega), if_neg e]
    generalize srcPh { σ with tag := .opn true } pw.heap.size (.slice a0 n c0) items (σ.room - 1) = σ1 at hp1 hch ⊢
    generalize srcEnd Try.prog pw (.slice a0 n c0) σ.quit σ.Wg = w1 at hp1 own6' own7' ⊢
    replace hG : ∀ b, σ1.F b → Try.prog.globals.size ≤ b := fun b hb => (hp1.fb b hb).1
    refine opsM_k calmM hG rfl rfl rfl (fun t d K hK => ?_)
    go_simp
    refine hK _ _ ?_
    clear hK
    walk_nrm
    rw [re_alloc]
    refine opsM_re ?_
    have hbs : w0.heap.size ≤ (w1.alloc (.cells #[.chan (some (pw.heap.size + 3))] tC)).heap.size := by
      have := hp1.size
      simp only [World.size_alloc]
      omega
    refine opsM_app calmM hG rfl rfl rfl w0.heap.size (v := v6) (e := tC) (z0 := .chan none) (size := 1) (bytes := 8) Try.underlying59 rfl rfl rfl (owns_keep (w' := w1.alloc (.cells #[.chan (some (pw.heap.size + 3))] tC)) own6' (fun g hg _ => alloc_other hg)) rfl (src_one Try.underlying59 rfl) (by have := hO.small; simp only [maxLen]; omega) (by have := hO.small; omega) hbs (fun c6' w3 own6n hsz3 hk3 hos3 hout3 => ?_)
    have own7n := owns_keep (w' := w3) (owns_keep (w' := w1.alloc (.cells #[.chan (some (pw.heap.size + 3))] tC)) own7' (fun g hg _ => alloc_other hg)) (fun g hg hg7 => hk3 g hg (owns_apart own6' own7' (by decide) g hg7))
    have hp3 := hp1.world (w' := w3) (fun x hx => by
      have h1 := hp1.size
      rw [hk3 x (by simp only [World.size_alloc]; omega) (fun e => ?_), alloc_other (by omega)]
      rcases own6'.2 with ⟨h6, _⟩ | ⟨g, _, _, h6, hg, _⟩
      · rw [h6] at e; cases e
      · rw [h6] at e
        have : x = g := by simpa [Value.ownBlock] using e
        omega) (by simp only [World.size_alloc] at hsz3; omega) hos3 hout3
    walk_nrm
    refine opsM_k calmM hG rfl rfl rfl (fun t d K hK => ?_)
    go_simp
    refine hK _ _ (opsM_re ?_)
    clear hK
    walk_nrm
    refine opsM_nil ?_
    show wpM _ _ _ _ _ _ _ _ _ _ _
    refine wpM_region ?_
    simp only [List.size_toArray, List.length_cons, List.length_nil, Nat.reduceAdd, Nat.zero_add, List.range, List.range.loop]
    refine opsM_k calmM hG rfl rfl rfl (fun t d K hK => ?_)
    go_simp
    refine hK _ _ (opsM_re ?_)
    clear hK
    walk_nrm
    refine opsM_k calmM hG rfl rfl rfl (fun t d K hK => ?_)
    go_simp
    refine hK _ _ (opsM_re ?_)
    clear hK
    walk_nrm
    refine opsM_k calmM hG rfl rfl rfl (fun t d K hK => ?_)
    go_simp
    refine hK _ _ (opsM_re ?_)
    clear hK
    walk_nrm
    refine opsM_k calmM hG rfl rfl rfl (fun t d K hK => ?_)
    go_simp
    refine hK _ _ ?_
    clear hK
    walk_nrm
    rw [re_alloc]
    refine opsM_re ?_
    have hbs3 : w0.heap.size ≤ (w3.alloc (.cells #[.int .i64 n] 3)).heap.size := by
      have := hp3.size
      simp only [World.size_alloc]
      omega
    refine opsM_app calmM hG rfl rfl rfl w0.heap.size (v := v7) (e := 3) (z0 := .int .i64 0) (size := 1) (bytes := 8) Try.underlying23 rfl rfl rfl (owns_keep (w' := w3.alloc (.cells #[.int .i64 n] 3)) own7n (fun g hg _ => alloc_other hg)) rfl (src_one Try.underlying23 rfl) (by have := hO.small; simp only [maxLen]; omega) (by have := hO.small; omega) hbs3 (fun c7' w5 own7m hsz5 hk5 hos5 hout5 => ?_)
    have own6m := owns_keep (w' := w5) (owns_keep (w' := w3.alloc (.cells #[.int .i64 n] 3)) own6n (fun g hg _ => alloc_other hg)) (fun g hg hg6 => hk5 g hg (owns_apart own7n own6n (by decide) g hg6))
    have hp5 := hp3.world (w' := w5) (fun x hx => by
      have h1 := hp3.size
      rw [hk5 x (by simp only [World.size_alloc]; omega) (fun e => ?_), alloc_other (by omega)]
      rcases own7n.2 with ⟨h6, _⟩ | ⟨g, _, _, h6, hg, _⟩
      · rw [h6] at e; cases e
      · rw [h6] at e
        have : x = g := by simpa [Value.ownBlock] using e
        omega) (by simp only [World.size_alloc] at hsz5; omega) hos5 hout5
    walk_nrm
    refine opsM_k calmM hG rfl rfl rfl (fun t d K hK => ?_)
    go_simp
    refine hK _ _ (opsM_re ?_)
    clear hK
    walk_nrm
    refine opsM_nil ?_
    show wpM _ _ _ _ _ _ _ _ _ _ _
    refine wpM_region ?_
    simp only [List.size_toArray, List.length_cons, List.length_nil, Nat.reduceAdd, Nat.zero_add, List.range, List.range.loop]
    have hwr : IntKind.i64.wrap ((j : Int) + 1) = ((j + 1 : Nat) : Int) := by rw [IntKind.wrap_i64]; have := hO.small; omega
    refine opsM_k calmM hG rfl rfl rfl (fun t d K hK => ?_)
    go_simp
    refine hK _ _ (opsM_re ?_)
    clear hK
    walk_nrm
    refine opsM_k calmM hG rfl rfl rfl (fun t d K hK => ?_)
    go_simp
    refine hK _ _ (opsM_re ?_)
    clear hK
    walk_nrm
    refine opsM_nil ?_
    refine ⟨hjN, _, c6', c7', rfl, rfl, rfl, rfl, rfl, rfl, rfl, rfl, rfl, rfl, rfl, ?_, ?_, ?_, hp5⟩
    · simp
    · have e : (List.range (j + 1)).map (fun i => Value.chan (some (σ1.ch (σ0.first + i)))) = (List.range j).map (fun i => Value.chan (some (σ.ch (σ0.first + i)))) ++ [.chan (some (pw.heap.size + 3))] := by
        rw [List.range_succ, List.map_append]
        congr 1
        · refine List.map_congr_left fun i hi => ?_
          have : i < j := List.mem_range.1 hi
          rw [hch, if_neg (by omega)]
        · simp [hch]
      rw [e]
      exact own6m
    · have e : (lists.take (j + 1)).map (fun x => Value.int .i64 x.length) = (lists.take j).map (fun x => Value.int .i64 x.length) ++ [.int .i64 n] := by
        rw [List.take_add_one, hit, List.map_append]
        simp [hitems.len]
      rw [e]
      exact own7m
  · have hlt : decide ((j : Int) < (N : Int)) = false := by simp; omega
    obtain rfl : j = N := by omega
    refine opsM_k calmM hG rfl rfl rfl (fun t d K hK => ?_)
    go_simp
    refine hK _ _ (opsM_re ?_)
    clear hK
    walk_nrm
    refine opsM_nil ?_
    show wpM _ _ _ _ _ _ _ _ _ _ _
    refine wpM_seq (wpM_cond (t := false) (by first | rfl | (simp [Act.eval]; omega)) ?_)
    simp only [Bool.false_eq_true, ↓reduceIte]
    refine wpM_exit ?_
    exact hx _ rfl ⟨_, v6, v7, rfl, rfl, rfl, rfl, rfl, rfl, rfl, rfl, rfl, rfl, rfl, rfl, own6, own7, hp⟩
theorem wpM_mono {P : Program} {ty : TypeId} {z z' : Value} {c : Code} {Q1 Q2 : Exit → Act → Ph → World → Prop} (h : wpM P ty z z' Post fn c Q1 a σ pw) (hq : ∀ e a σ pw, Q1 e a σ pw → Q2 e a σ pw) : wpM P ty z z' Post fn c Q2 a σ pw := fun b k cs h1 h2 h3 => h b k cs h1 h2 fun _e _a _s _w q => h3 _ _ _ _ (hq _ _ _ _ q)
/-- ████ THE FIRST LOOP. ████ -/
theorem strLoop1 (hO : OwnAt σ0 w0 ao N lists) (hSW : ∀ b, σ0.SW b → b < w0.heap.size) (hgs : Try.prog.globals.size ≤ w0.heap.size) (hFq : σ0.F σ0.quit) (hFw : σ0.F σ0.Wg) (hroom : N ≤ σ0.room) (hI : Inv1 σ0 w0 l bo bp ao N cap lists 0 a σ pw)
    (hn : ∀ a σ pw, Inv1 σ0 w0 l bo bp ao N cap lists N a σ pw → Q .normal a σ pw) : wpM Try.prog wtG zI zS Post fn blockT1 Q a σ pw := by
  have hb : blockT1 = .block 0 (.loop loopT1) := rfl
  rw [hb]
  refine wpM_block (wpM_loop (fun a σ pw => ∃ j, j ≤ N ∧ Inv1 σ0 w0 l bo bp ao N cap lists j a σ pw) (fun _ σ _ => N - σ.n) ⟨0, by omega, hI⟩ fun a σ pw hI => ?_)
  obtain ⟨j, hj, hI⟩ := hI
  have hnj : σ.n = j := by
    obtain ⟨_, _, _, _, _, _, _, _, _, _, _, _, _, _, _, _, _, hp⟩ := hI
    exact hp.n
  refine wpM_mono (strRound hO hSW hgs hFq hFw hroom hj hI (Q := inBlockM 0 Q) fun a' hjN hIN => ?_) fun e a' σ' pw' q => ?_
  · simp only [inBlockM, if_true]
    exact hn _ _ _ hIN
  · cases e with
    | normal =>
      obtain ⟨hjN, hI'⟩ := q
      refine ⟨⟨j + 1, by omega, hI'⟩, ?_⟩
      obtain ⟨_, _, _, _, _, _, _, _, _, _, _, _, _, _, _, _, _, hp⟩ := hI'
      have := hp.n
      show N - σ'.n < N - σ.n
      omega
    | exit id => exact q
    | ret => exact q
    | goto l => exact q
    | panic ch => exact q
    | outgrown => exact q
end
end Go.Proofs.Ytmllcfkgkkbkpaa
